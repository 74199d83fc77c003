/- DERIVED. The statements' own helpers: over, spoil, again. -/
import Derived.Test.YtejodabmddcanaaSegLent2
namespace Go.Proofs.Ytejodabmddcanaa
open Go.RowKit

/-- An entry of a row of the call's own, as the walk reads and writes it. -/
theorem Own.cells {w : World} {B g n cap : Nat} {l : List Ent} (h : Own w B (.slice (some ⟨g, 0, none⟩) n cap) l) (i : Nat) (hi : i < l.length) :
    w.cell? ⟨g, i * 2, none⟩ = some (.string l[i].key) ∧ w.cell? ⟨g, i * 2 + 1, none⟩ = some (.string l[i].sum) ∧ w.frozen? ⟨g, i * 2, none⟩ = false ∧ w.frozen? ⟨g, i * 2 + 1, none⟩ = false := by
  have hn : n = l.length := by
    rcases h.2 with ⟨hv, _⟩ | ⟨_, _, _, hv, _⟩
    · cases hv
    · injection hv
  subst hn
  have he := ents_even l i _ (List.getElem?_eq_getElem hi)
  refine ⟨?_, ?_, World.ownsRow.frozenAt h _, World.ownsRow.frozenAt h _⟩
  · rw [World.ownsRow.cellAt h _ (by omega)]; exact he.1
  · rw [World.ownsRow.cellAt h _ (by omega)]; exact he.2
theorem ents_set (l : List Ent) (i : Nat) (e : Ent) (hi : i < l.length) : ents (l.set i e) = ((ents l).set (i * 2) (.string e.key)).set (i * 2 + 1) (.string e.sum) := by
  induction l generalizing i with
  | nil => exact absurd hi (by simp)
  | cons x l ih =>
    cases i with
    | zero => simp [ents_cons]
    | succ i =>
      rw [List.set_cons_succ, ents_cons, ents_cons, ih i (by simpa using hi)]
      rw [show (i + 1) * 2 = i * 2 + 1 + 1 by omega]
      simp
theorem Own.set_ {w : World} {B g n cap : Nat} {l : List Ent} (h : Own w B (.slice (some ⟨g, 0, none⟩) n cap) l) (i : Nat) (hi : i < l.length) (e : Ent) :
    Own ((w.setCell ⟨g, i * 2, none⟩ (.string e.key)).setCell ⟨g, i * 2 + 1, none⟩ (.string e.sum)) B (.slice (some ⟨g, 0, none⟩) n cap) (l.set i e) := by
  have hn : n = l.length := by
    rcases h.2 with ⟨hv, _⟩ | ⟨_, _, _, hv, _⟩
    · cases hv
    · injection hv
  subst hn
  have := (World.ownsRow.stored (World.ownsRow.stored h (i * 2) (.string e.key)).1 (i * 2 + 1) (.string e.sum)).1
  unfold Own
  rw [List.length_set, ents_set l i e hi]
  exact this
theorem Own.set2 {w : World} {B g n cap : Nat} {l : List Ent} (h : Own w B (.slice (some ⟨g, 0, none⟩) n cap) l) (i : Nat) (hi : i < l.length) (x y : ByteArray) (o : Obj) :
    Own (((w.setCell ⟨g, i * 2, none⟩ (.string x)).setCell ⟨g, i * 2 + 1, none⟩ (.string y)).alloc o) B (.slice (some ⟨g, 0, none⟩) n cap) (l.set i ⟨x, y⟩) := (h.set_ i hi ⟨x, y⟩).alloc o
theorem grown_set (w : World) (g i : Nat) (u : Value) : w.grownBy (w.setCell ⟨g, i, none⟩ u) (some g) := by
  refine ⟨rfl, rfl, rfl, by simp [World.setCell], fun k hk hne => ?_⟩
  exact Below.heap_setCell w ⟨g, i, none⟩ u k (fun e => hne (by rw [e]))

theorem conv4 (W : World) (a b c d : Int) : ∃ S, (convert 23 9 (.slice (some ⟨W.heap.size, 0, none⟩) 4 4)).run Try.prog (W.alloc (.cells #[.int .u8 a, .int .u8 b, .int .u8 c, .int .u8 d] 5)) = .ok (.string S) (W.alloc (.cells #[.int .u8 a, .int .u8 b, .int .u8 c, .int .u8 d] 5)) := by
  refine ⟨_, run_convert_bytes_arg _ 23 5 Try.underlying23 Try.underlying5 W.heap.size 0 4 4 [a, b, c, d] rfl (fun i hi => ?_) 9 Try.underlying9⟩
  have h := cell_of_row (W.alloc (.cells #[.int .u8 a, .int .u8 b, .int .u8 c, .int .u8 d] 5)) W.heap.size (0 + i) _ 5 (0, 0) (heap_alloc_new W _)
  rw [h]
  have : i = 0 ∨ i = 1 ∨ i = 2 ∨ i = 3 := by omega
  rcases this with rfl | rfl | rfl | rfl <;> rfl

set_option maxRecDepth 100000 in
set_option maxHeartbeats 1600000 in
theorem over_own (B g cap : Nat) (l : List Ent) (w : World) (hl : l.length ≤ 4398046511104) (ho : Own w B (.slice (some ⟨g, 0, none⟩) l.length cap) l) :
    Calls Try.prog 31 #[.slice (some ⟨g, 0, none⟩) l.length cap] w fun e w' => (∃ v, e = .returned v) ∧ ∃ l', l'.length = l.length ∧ Own w' B (.slice (some ⟨g, 0, none⟩) l.length cap) l' ∧ w.grownBy w' (some g) := by
  have HO := Lib.hid ho
  have hgt := (ho.lt g rfl).2
  clear ho
  go_enter Try.func31, Try.ntmps31
  go_wp2
  go_loopw [2] (fun i w' => ∃ (k : Nat) (l' : List Ent), k ≤ l.length ∧ i = .int .i64 k ∧ Hid (l'.length = l.length) ∧ Hid (Own w' B (.slice (some ⟨g, 0, none⟩) l.length cap) l') ∧ Hid (w.grownBy w' (some g))) (fun i _ => l.length - (intOf i).toNat)
  case atStart => exact ⟨0, l, by omega, rfl, Lib.hid rfl, HO, Lib.hid (grown_refl _ _)⟩
  case round =>
    obtain ⟨k, l', hk, rfl, hl', ho, hg⟩ := hrel
    by_cases hlt : k < l.length
    · have i0 : (0 : Int) ≤ (k : Int) := by omega
      have i1 : (k : Int) < (l.length : Int) := by omega
      obtain ⟨c0, c1, f0, f1⟩ := ho.out.cells k (by have := hl'.out; omega)
      have hgt2 := (ho.out.lt g rfl).2
      have k0 : (0 : Int) ≤ (k : Int) / 65536 := by omega
      obtain ⟨S, hS⟩ := conv4 wr 111 ((k : Int) / 65536 % 256) ((k : Int) / 256 % 256) ((k : Int) % 256)
      have r1 : (0 : Int) ≤ (k : Int) % 26 := by omega
      have r2 : (k : Int) % 26 < 26 := by omega
      go_wp2
      go_roundw
      case rel => exact ⟨k + 1, l'.set k ⟨S, Utf8.encode (97 + (k : Int) % 26)⟩, by omega, by go_num, Lib.hid (by rw [List.length_set]; exact hl'.out), Lib.hid (ho.out.set2 k (by rw [hl'.out]; exact hlt) _ _ _), Lib.hid (grown_step (grown_step (grown_step hg.out (grown_set _ _ _ _) (.inl rfl)) (grown_set _ _ _ _) (.inl rfl)) (grown_of_bl ((Below.refl _ _).alloc (Nat.le_refl _) _) _) (.inl rfl))⟩
      case measure => simp [intOf]; omega
    · obtain rfl : k = l.length := by omega
      go_wp2
      go_end0
      exact ⟨⟨_, rfl⟩, l', hl'.out, ho.out, hg.out⟩

theorem over_any (B : Nat) (v : Value) (l : List Ent) (w : World) (hl : l.length ≤ 4398046511104) (ho : Own w B v l) :
    Calls Try.prog 31 #[v] w fun e w' => (∃ v, e = .returned v) ∧ ∃ l', l'.length = l.length ∧ Own w' B v l' ∧ w.grownBy w' v.ownBlock := by
  rcases ho.2 with ⟨rfl, h0⟩ | ⟨g, cap, cur, rfl, _⟩
  · obtain rfl := List.eq_nil_of_length_eq_zero h0
    have HO := Lib.hid ho
    clear ho
    go_enter Try.func31, Try.ntmps31
    go_wp2
    go_loopw [2] (fun i w' => i = .int .i64 0 ∧ w' = w) (fun i _ => 0)
    case atStart => exact ⟨rfl, rfl⟩
    case round =>
      obtain ⟨rfl, rfl⟩ := hrel
      go_wp2
      go_end0
      exact ⟨⟨_, rfl⟩, [], rfl, HO.out, grown_refl _ _⟩
  · exact over_own B g cap l w hl ho

def behindE : Ent := ⟨⟨#[98, 101, 104, 105, 110, 100]⟩, ⟨#[]⟩⟩

set_option maxRecDepth 100000 in
set_option maxHeartbeats 1600000 in
theorem spoil_any (B : Nat) (v : Value) (l : List Ent) (w : World) (hl : l.length ≤ 4398046511000) (hB : B ≤ w.heap.size) (ho : Own w B v l) :
    Calls Try.prog 58 #[v] w fun e w' => (∃ v, e = .returned v) ∧ w.grownBy w' v.ownBlock := by
  obtain ⟨i0, hi0, hz0, hz1, hz2⟩ := info_parts entry_info
  have HO := Lib.hid ho
  clear ho
  go_enter Try.func58, Try.ntmps58
  go_wp2_with (go_at_call 31; refine (over_any B v l _ (by omega) HO.out).mono ?_; rintro e w1 ⟨⟨r, rfl⟩, l1, hl1, ho1, hg1⟩; have HL1 := Lib.hid hl1; have HO1 := Lib.hid ho1; have HG1 := Lib.hid hg1; clear hl1 ho1 hg1)
  go_loopw [0, 2] (fun v0 i w' => ∃ (u : Value) (k : Nat) (m : List Ent), u = v0 ∧ k ≤ 70 ∧ i = .int .i64 k ∧ Hid (m.length = l.length + k) ∧ Hid (Own w' B u m) ∧ Hid (w.grownBy w' v.ownBlock) ∧ Hid (u.ownBlock = v.ownBlock ∨ ∀ b, u.ownBlock = some b → w.heap.size ≤ b)) (fun _ i _ => 70 - (intOf i).toNat)
  case atStart => exact ⟨v, 0, l1, rfl, by omega, rfl, HL1, HO1, HG1, Lib.hid (.inl rfl)⟩
  case round =>
    obtain ⟨u, k, m, rfl, hk, rfl, hm, ho, hg, hu⟩ := hrel
    have hsz : w.heap.size ≤ wr.heap.size := hg.out.size
    by_cases hlt : k < 70
    · go_wp2_with (at_builtin; refine app_one rfl (.tmp 9) (.tmp 11) _ rfl Try.underlying37 hi0 hz0 hz1 hz2 rfl B u m behindE rfl ho.out rfl (by have := hm.out; omega) (by omega) ?_; intro v3 w3 ho3 hg3 hat3; have HO3 := Lib.hid ho3; have HG3 := Lib.hid (grown_step hg.out hg3 hu.out); have HU3 := Lib.hid (show v3.ownBlock = v.ownBlock ∨ ∀ b, v3.ownBlock = some b → w.heap.size ≤ b by
        rcases hat3 with h | ⟨b, h, hb⟩
        · rw [h]; exact hu.out
        · refine .inr fun b' hb' => ?_
          rw [h] at hb'; cases hb'; omega); clear ho3 hg3 hat3)
      go_roundw
      case rel => exact ⟨_, k + 1, _, rfl, by omega, by go_num, Lib.hid (by rw [List.length_append, hm.out]; rfl), HO3, HG3, HU3⟩
      case measure => simp [intOf]; omega
    · obtain rfl : k = 70 := by omega
      go_wp2
      go_end0
      exact ⟨⟨_, rfl⟩, hg.out⟩
end Go.Proofs.Ytejodabmddcanaa
