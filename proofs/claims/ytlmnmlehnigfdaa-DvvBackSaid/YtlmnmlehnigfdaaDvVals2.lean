/- DERIVED. The program's Values: the walk. -/
import Derived.Test.YtlmnmlehnigfdaaDvJoinP
import Derived.Test.YtlmnmlehnigfdaaDvValid
import Derived.Test.YtlmnmlehnigfdaaDvVals
import Derived.Test.YtlmnmlehnigfdaaShelf
namespace Go.Proofs.Ytlmnmlehnigfdaa
open Go.RowKit
set_option linter.unusedVariables false
set_option linter.unusedSimpArgs false

theorem raw_yes {l : List Sib} {k : Nat} (h : k < l.length) (hg : l[k].gone = true) : rawV (l.take (k + 1)) = rawV (l.take k) := by
  have h1 : [l[k]].filter (fun x => !x.gone) = [] := by simp [hg]
  unfold rawV
  rw [List.take_succ_eq_append_getElem h, List.filter_append, h1, List.append_nil]
theorem raw_no {l : List Sib} {k : Nat} (h : k < l.length) (hg : l[k].gone = false) : rawV (l.take (k + 1)) = rawV (l.take k) ++ [l[k].v] := by
  have h1 : [l[k]].filter (fun x => !x.gone) = [l[k]] := by simp [hg]
  unfold rawV
  rw [List.take_succ_eq_append_getElem h, List.filter_append, h1, List.map_append]; rfl
theorem raw_len (l : List Sib) : (rawV l).length ≤ l.length := by unfold rawV; rw [List.length_map]; exact List.length_filter_le _ _
theorem own_shape {α : Type} {K : GR.Kind α} {w : World} {B : Nat} {v : Value} {l : List α} (h : GR.Own K w B v l) (h0 : 0 < l.length) : ∃ g cap cur, v = .slice (some ⟨g, 0, none⟩) l.length cap ∧ B ≤ g ∧ w.heap[g]? = some (.cells cur K.e (0, 0)) ∧ l.length ≤ cap ∧ cap ≤ maxLen ∧ cur.size = cap * K.s ∧ cur.toList.take (l.length * K.s) = GR.cs K l := by
  rcases h.2 with ⟨_, h1⟩ | ⟨g, cap, cur, rfl, h1, h2, h3, h4, h5, h6⟩
  · omega
  · exact ⟨g, cap, cur, rfl, h1, h2, h3, h4, h5, h6⟩
/-- Sort of strings in a row of the call's own. -/
theorem sort_own (B : Nat) (v : Value) (L : List ByteArray) (w : World) (ho : GR.Own strK w B v L) (hL : L.length ≤ 64) :
    Calls Try.prog 71 #[v] w fun e w' => e = .returned (.tuple #[]) ∧ GR.Own strK w' B v (ofL ((toL L).mergeSort fun x y => decide (x ≤ y))) ∧ w.grownBy w' v.ownBlock := by
  rcases Nat.eq_zero_or_pos L.length with h0 | h0
  · obtain rfl := List.eq_nil_of_length_eq_zero h0
    obtain ⟨A, c, rfl, _, _⟩ := ho.rd' (by simp)
    refine (Go.Proofs.Try.slices_Sort_string_none A c w).mono ?_
    rintro e w' ⟨rfl, rfl⟩
    exact ⟨rfl, by simpa [toL, ofL] using ho, ⟨rfl, rfl, rfl, Nat.le_refl _, fun _ _ _ => rfl⟩⟩
  · obtain ⟨g, cap, cur, rfl, h1, h2, h3, h4, h5, h6⟩ := own_shape ho h0
    have hl : (toL L).length = L.length := by simp [toL]
    have h6' : cur.toList.take (toL L).length = (toL L).map encStr := by
      rw [← cs_ofL, ofL_toL, hl]
      have : L.length * strK.s = L.length := by show L.length * 1 = _; omega
      rw [this] at h6; exact h6
    have hH := holds_of_block (ss := toL L) h2 h6'
    have := Go.Proofs.Try.slices_Sort_string g 0 cap (toL L) w hH (Array.getElem?_eq_some_iff.1 h2).1 (by omega)
    rw [hl] at this
    refine this.mono ?_
    rintro e w' ⟨rfl, n, os, rfl⟩
    have hs := ownsRow_sorted (n := n) (os := os) (ts := (toL L).mergeSort fun x y => decide (x ≤ y)) (ss := toL L) (cap := cap) (by simp) h1 h2 (by omega) h4 (by show cur.size = cap * 1; exact h5)
    refine ⟨rfl, ?_, grownBy_sorted _⟩
    unfold GR.Own
    rw [cs_ofL, ofL_len, List.length_mergeSort, hl]
    rw [hl] at hs
    exact hs
/-- Compact of strings in a row of the call's own. -/
theorem compact_own (B : Nat) (v : Value) (L : List (List UInt8)) (w : World) (ho : GR.Own strK w B v (ofL L)) (hL : L.length ≤ 64) :
    Calls Try.prog 72 #[v] w fun e w' => (∃ u, e = .returned u ∧ GR.Own strK w' B u (ofL (Lib.compact L))) ∧ w.grownBy w' v.ownBlock := by
  rcases Nat.eq_zero_or_pos L.length with h0 | h0
  · obtain rfl := List.eq_nil_of_length_eq_zero h0
    obtain ⟨A, c, rfl, _, _⟩ := ho.rd' (by simp [ofL])
    refine (Go.Proofs.Try.slices_Compact_string_empty A c w).mono ?_
    rintro e w' ⟨rfl, rfl⟩
    exact ⟨⟨_, rfl, by simpa [ofL, Lib.compact, Lib.compactUpTo] using ho⟩, ⟨rfl, rfl, rfl, Nat.le_refl _, fun _ _ _ => rfl⟩⟩
  · obtain ⟨g, cap, cur, rfl, h1, h2, h3, h4, h5, h6⟩ := own_shape ho (by rw [ofL_len]; exact h0)
    rw [ofL_len] at h3 h6 ⊢
    have h6' : cur.toList.take L.length = L.map encStr := by
      rw [← cs_ofL]
      have : L.length * strK.s = L.length := by show L.length * 1 = _; omega
      rw [this] at h6; exact h6
    have hH := holds_of_block (ss := L) h2 h6'
    refine (Go.Proofs.Try.slices_Compact_string g 0 cap L w hH (by omega) h3).mono ?_
    rintro e w' ⟨rfl, q, rfl⟩
    have hcl : (Lib.compact L).length ≤ L.length := by
      unfold Lib.compact Lib.compactUpTo
      rw [List.length_map]
      exact Nat.le_trans (List.length_filter_le _ _) (by simp)
    have hs := ownsRow_sorted (n := q) (os := #[]) (ts := Lib.compact L ++ List.replicate (L.length - (Lib.compact L).length) []) (ss := L) (cap := cap) (by simp; omega) h1 h2 h3 h4 (by show cur.size = cap * 1; exact h5)
    have hg := grownBy_sorted (w := w) (g := g) (n := q) (os := #[]) (Lib.compact L ++ List.replicate (L.length - (Lib.compact L).length) []).toArray
    rw [Sort.grow_empty] at hs hg
    refine ⟨⟨_, rfl, ?_⟩, hg⟩
    have hown : GR.Own strK (Sort.putRow encStr (Sort.ahead w q) g 0 (Lib.compact L ++ List.replicate (L.length - (Lib.compact L).length) []).toArray) B (.slice (some ⟨g, 0, none⟩) L.length cap) (ofL (Lib.compact L) ++ ofL (List.replicate (L.length - (Lib.compact L).length) [])) := by
      have he : ofL (Lib.compact L) ++ ofL (List.replicate (L.length - (Lib.compact L).length) []) = ofL (Lib.compact L ++ List.replicate (L.length - (Lib.compact L).length) []) := by simp [ofL]
      rw [he]
      unfold GR.Own
      rw [cs_ofL, ofL_len]
      have hn : (Lib.compact L ++ List.replicate (L.length - (Lib.compact L).length) ([] : List UInt8)).length = L.length := by simp; omega
      rw [hn]; exact hs
    have := GR.Own.take hown
    rw [ofL_len] at this
    exact this

set_option maxRecDepth 100000 in
set_option maxHeartbeats 3200000 in
theorem dvvValues_any (A B : Option Addr) (c d : Nat) (a : List Dot) (l : List Sib) (w : World) (ha : GR.Rd dotK w A a) (hl : GR.Rd sibK w B l) (na : ∀ d ∈ a, 0 ≤ d.n) (nl : ∀ x ∈ l, 0 ≤ x.d.n) :
    Calls Try.prog 28 #[.agg #[.slice A a.length c, .slice B l.length d]] w fun e w' => ∃ v, e = .returned v ∧ GR.Own strK w' w.heap.size v (valsA a l) ∧ Below w.heap.size w w' := by
  obtain ⟨j0, hj0, jz0, jz1, jz2⟩ := info_parts str_info
  have hml : l.length * 40 ≤ 140737488355328 := hl.max
  have HA := Lib.hid ha
  have HL := Lib.hid hl
  have NA := Lib.hid na
  have NL := Lib.hid nl
  clear ha hl na nl
  go_enter Try.func28, Try.ntmps28
  go_wp2_with fail
  obtain ⟨W1, hW1⟩ : ∃ W1 : World, W1 = w.alloc (.cells #[.slice A a.length c, .slice B l.length d] 25) := ⟨_, rfl⟩
  rw [← hW1]
  have LW : Hid (Below w.heap.size w W1) := Lib.hid (by rw [hW1]; exact (by repeat (first | exact Below.refl _ _ | refine bl_drewN ?_ _ | refine bl_drew ?_ | refine bl_alloc ?_ _)))
  have XA : Hid (GR.Blk W1 w.heap.size 25 #[.slice A a.length c, .slice B l.length d]) := Lib.hid (by rw [hW1]; exact GR.Blk.new _ _ _)
  clear hW1
  refine (dvvValid_any A B c d a l _ (HA.out.below LW.out) (HL.out.below LW.out) NA.out NL.out).mono ?_
  rintro e w2 ⟨rfl, hb2⟩
  have B2 := Lib.hid (bl_then LW.out hb2)
  have ps_0 : w2.cell? ⟨w.heap.size, 0, none⟩ = some (.slice A a.length c) := (XA.out.below hb2 XA.out.lt).cell 0
  have ps_1 : w2.cell? ⟨w.heap.size, 1, none⟩ = some (.slice B l.length d) := (XA.out.below hb2 XA.out.lt).cell 1
  clear hb2
  by_cases h1 : staB a l = false
  · rw [h1]
    go_wp2
    go_ret
    exact ⟨_, rfl, by rw [valsA, h1]; exact GR.Own.nil _ _ _, (by repeat (first | exact B2.out | refine bl_drewN ?_ _ | refine bl_drew ?_ | refine bl_alloc ?_ _))⟩
  · replace h1 : staB a l = true := by simpa using h1
    rw [h1]
    have h64 : l.length ≤ 64 := (sta_ok h1).2.1
    have HV := Lib.hid (show valsA a l = valsS l by rw [valsA, h1]; rfl)
    clear h1
    go_wp2
    clear ps_0 ps_1
    go_loopw [3, 12] (fun v0 i w' => ∃ (k : Nat) (v : Value) (acc : List ByteArray), v = v0 ∧ i = .int .i64 k ∧ k ≤ l.length ∧ Hid (acc = rawV (l.take k)) ∧ Hid (GR.Own strK w' w.heap.size v acc) ∧ Hid (Below w.heap.size w w')) (fun _ i _ => l.length - (intOf i).toNat)
    case atStart => exact ⟨0, .slice none 0 0, [], rfl, rfl, Nat.zero_le _, Lib.hid (by simp [rawV]), Lib.hid (GR.Own.nil _ _ _), Lib.hid (by repeat (first | exact B2.out | refine bl_drewN ?_ _ | refine bl_drew ?_ | refine bl_alloc ?_ _))⟩
    case round =>
      obtain ⟨k, v, acc, rfl, rfl, hk, hacc, ho, hb⟩ := hrel
      have hbs : w.heap.size ≤ wr.heap.size := hb.out.size
      by_cases hlt : k < l.length
      · have i0 : (0 : Int) ≤ (k : Int) := by omega
        have i1 : (k : Int) < (l.length : Int) := by omega
        obtain ⟨ad, eB, _, x0, x1, x2, x3⟩ := sib_at (HL.out.below hb.out) k hlt
        subst eB
        have hal : acc.length ≤ 64 := by rw [hacc.out]; exact Nat.le_trans (raw_len _) (by simp; omega)
        rcases hg : l[k].gone with _ | _
        · rw [hg] at x2
          have HK := Lib.hid (raw_no hlt hg)
          clear hg
          go_wp2_with (
            at_builtin
            refine GR.app_all (K := strK) rfl (.tmp 19) (.tmp 22) _ rfl Try.underlying49 hj0 jz0 jz1 jz2 rfl w.heap.size _ acc rfl ((ho.out.alloc _).alloc _) _ 1 1 [l[k].v] rfl rfl (GR.rd_new (K := strK) l[k].v (by simp) (by show 16 ≤ 140737488355328; omega)) (by show (acc.length + 1) * 16 ≤ _; omega) (Nat.le_trans hbs (by simp; omega)) ?_
            intro v3 w3 ho_ hg_ hat_
            have O3 := Lib.hid ho_
            have B3 := Lib.hid (Below.grown (B := w.heap.size) (a := w) (by repeat (first | exact hb.out | refine bl_drewN ?_ _ | refine bl_drew ?_ | refine bl_alloc ?_ _)) hg_ (Nat.le_trans hbs (by simp; omega)) (fun b hb => (ho.out.lt b hb).1))
            clear ho_ hg_ hat_)
          go_roundw
          case rel => exact ⟨k + 1, v3, acc ++ [l[k].v], rfl, by go_num, by omega, Lib.hid (by rw [HK.out, ← hacc.out]), O3, B3⟩
          case measure => simp [intOf]; omega
        · rw [hg] at x2
          have HK := Lib.hid (raw_yes hlt hg)
          clear hg
          go_wp2
          go_roundw
          case rel => exact ⟨k + 1, v, acc, rfl, by go_num, by omega, Lib.hid (by rw [HK.out]; exact hacc.out), Lib.hid (ho.out.alloc _), Lib.hid (by repeat (first | exact hb.out | refine bl_drewN ?_ _ | refine bl_drew ?_ | refine bl_alloc ?_ _))⟩
          case measure => simp [intOf]; omega
      · obtain rfl : k = l.length := by omega
        have HR : Hid (acc = rawV l) := Lib.hid (by rw [hacc.out, List.take_length])
        have hal : acc.length ≤ 64 := by rw [HR.out]; exact Nat.le_trans (raw_len _) h64
        go_wp2_with fail
        refine (sort_own w.heap.size v acc _ ho.out hal).mono ?_
        rintro e w4 ⟨rfl, ho4, hg4⟩
        have O4 := Lib.hid ho4
        have B4 := Lib.hid (Below.grown (B := w.heap.size) hb.out hg4 hbs (fun b hb => (ho.out.lt b hb).1))
        clear ho4 hg4
        go_wp2_with fail
        refine (compact_own w.heap.size v _ _ O4.out (by simp [toL]; exact hal)).mono ?_
        rintro e w5 ⟨⟨u, rfl, ho5⟩, hg5⟩
        have O5 := Lib.hid ho5
        have B5 := Lib.hid (Below.grown (B := w.heap.size) B4.out hg5 B4.out.size (fun b hb => (O4.out.lt b hb).1))
        clear ho5 hg5
        go_wp2
        go_ret
        exact ⟨_, rfl, by rw [HV.out, ← sorted_vals, ← HR.out]; exact O5.out, B5.out⟩
end Go.Proofs.Ytlmnmlehnigfdaa
