/- DERIVED. Two lists of items, two lists of cells: are they the same? -/
import Derived.Test.YtpklkjekkbpeoaaSkSort
import Derived.Test.YtpklkjekkbpeoaaOver
import Derived.Test.YtpklkjekkbpeoaaWEqStruct
namespace Go.Proofs.Ytpklkjekkbpeoaa
open Go.RowKit Go.Proofs.YtpklkjekkbpeoaaW.PrintWords
set_option linter.unusedVariables false
set_option linter.unusedSimpArgs false
attribute [local irreducible] mixN

theorem eqCC (d : Nat) (w : World) (a b : Cel) :
    (Op.equalIn (d + 2) 81 (.agg #[.int .i16 a.n.toInt, .int .u64 (a.x.toNat : Int), .int .u32 (a.h.toNat : Int)]) (.agg #[.int .i16 b.n.toInt, .int .u64 (b.x.toNat : Int), .int .u32 (b.h.toNat : Int)])).run Try.prog w = .ok (a == b) w := by
  have : (a == b) = ((a.n.toInt == b.n.toInt) && (((a.x.toNat : Int) == (b.x.toNat : Int)) && ((a.h.toNat : Int) == (b.h.toNat : Int)))) := by
    rw [Bool.eq_iff_iff]
    simp only [beq_iff_eq, Bool.and_eq_true]
    constructor
    · rintro rfl; exact ⟨rfl, rfl, rfl⟩
    · rintro ⟨h1, h2, h3⟩
      obtain ⟨n, x, h⟩ := a
      obtain ⟨n', x', h'⟩ := b
      have e1 : n = n' := BitVec.eq_of_toInt_eq h1
      have e2 : x = x' := BitVec.eq_of_toNat_eq (by simp only at h2; omega)
      have e3 : h = h' := BitVec.eq_of_toNat_eq (by simp only at h3; omega)
      rw [e1, e2, e3]
  rw [this]
  refine eqA_of Try.underlying81 (by kernel_rfl) ?_
  refine eqf_cons (by rfl) (by go_simp; rfl) (by go_simp; rfl) (by go_simp) ?_
  refine eqf_cons (by rfl) (by go_simp; rfl) (by go_simp; rfl) (by go_simp) ?_
  exact eqf_last (by rfl) (by go_simp; rfl) (by go_simp; rfl) (by go_simp)
theorem upto_eq {α : Type} {l m : List α} (hl : l.length = m.length) (h : ∀ t (h1 : t < l.length) (h2 : t < m.length), l[t] = m[t]) : l = m := List.ext_getElem hl h
set_option maxRecDepth 100000 in
set_option maxHeartbeats 6400000 in
theorem sameItems_any (A B : Option Addr) (c d : Nat) (l m : List It) (w : World) (hl : GR.Rd itK w A l) (hm : GR.Rd itK w B m) :
    Calls Try.prog 19 #[.slice A l.length c, .slice B m.length d] w fun e w' => e = .returned (.bool (decide (l = m))) ∧ Below w.heap.size w w' := by
  have bl : l.length * 8 ≤ 140737488355328 := hl.max
  have bm : m.length * 8 ≤ 140737488355328 := hm.max
  have HL := Lib.hid hl
  have HM := Lib.hid hm
  clear hl hm
  by_cases hn : l.length = m.length
  · have HN := Lib.hid hn
    rw [← hn]
    clear hn bm
    go_enter Try.func19, Try.ntmps19
    go_wp2_with fail
    go_loopw [5] (fun i w' => ∃ k : Nat, k ≤ l.length ∧ i = .int .i64 k ∧ Hid (∀ t (h1 : t < l.length) (h2 : t < m.length), t < k → l[t] = m[t]) ∧ Hid (Below w.heap.size w w')) (fun i _ => l.length - (intOf i).toNat)
    case atStart => exact ⟨0, Nat.zero_le _, rfl, Lib.hid (fun t _ _ h => absurd h (Nat.not_lt_zero _)), Lib.hid (Below.refl _ _)⟩
    case round =>
      obtain ⟨W0, hw_⟩ : ∃ x : World, x = wr := ⟨_, rfl⟩
      subst hw_
      obtain ⟨k, hk, rfl, he, hb⟩ := hrel
      by_cases hlt : k < l.length
      · have i0 : (0 : Int) ≤ (k : Int) := by omega
        have i1 : (k : Int) < (l.length : Int) := by omega
        have hkm : k < m.length := by rw [← HN.out]; exact hlt
        obtain ⟨ad, rfl, _, a0⟩ := it_at (HL.out.below hb.out) k hlt
        obtain ⟨bd, rfl, _, b0⟩ := it_at (HM.out.below hb.out) k hkm
        obtain ⟨x, hx⟩ : ∃ x, x = l[k] := ⟨_, rfl⟩
        obtain ⟨y, hy⟩ : ∃ y, y = m[k] := ⟨_, rfl⟩
        rw [← hx] at a0
        rw [← hy] at b0
        have HX := Lib.hid hx
        have HY := Lib.hid hy
        clear hx hy
        have d0 := over_cell a0
        have d1 := over_cell b0
        by_cases hxy : (x.toNat : Int) = (y.toNat : Int)
        · have r1 : ((x.toNat : Int) != (y.toNat : Int)) = false := by simp [hxy]
          have hxy' : x = y := BitVec.eq_of_toNat_eq (by omega)
          have HE := Lib.hid hxy'
          clear hxy hxy'
          go_upto_region 6 with fail
          refine over_region (W := W0) (by kernel_rfl) (by kernel_rfl) (by repeat (first | exact Below.refl _ _ | refine bl_drewN ?_ _ | refine bl_drew ?_ | refine bl_alloc ?_ _)) ?_
          repeat (go_big_quiet_step (fail))
          refine wpQuiet_nil ?_
          intro _ hx_
          obtain ⟨x_, hx_⟩ := hx_
          subst hx_
          obtain ⟨w2, hb2⟩ := x_
          dsimp only
          have HB := Lib.hid (bl_then hb.out hb2)
          clear hb2 d0 d1 a0 b0
          go_wp2
          go_roundw
          case rel => exact ⟨k + 1, by omega, by go_num, Lib.hid (fun t h1 h2 ht => by
            rcases Nat.lt_succ_iff_lt_or_eq.1 ht with h | rfl
            · exact he.out t h1 h2 h
            · rw [← HX.out, ← HY.out]; exact HE.out), HB⟩
          case measure => simp [intOf]; omega
        · have r1 : ((x.toNat : Int) != (y.toNat : Int)) = true := by simpa using hxy
          have HE := Lib.hid hxy
          clear hxy
          go_upto_region 6 with fail
          refine over_region (W := W0) (by kernel_rfl) (by kernel_rfl) (by repeat (first | exact Below.refl _ _ | refine bl_drewN ?_ _ | refine bl_drew ?_ | refine bl_alloc ?_ _)) ?_
          repeat (go_big_quiet_step (fail))
          refine wpQuiet_nil ?_
          intro _ hx_
          obtain ⟨x_, hx_⟩ := hx_
          subst hx_
          obtain ⟨w2, hb2⟩ := x_
          dsimp only
          have HB := Lib.hid (bl_then hb.out hb2)
          clear hb2 d0 d1 a0 b0
          go_wp2
          go_ret
          refine ⟨ret_bool ?_, HB.out⟩
          symm
          rw [decide_eq_false_iff_not]
          rintro rfl
          exact HE.out (by rw [HX.out, HY.out])
      · obtain rfl : k = l.length := by omega
        go_wp2
        go_ret
        refine ⟨ret_bool ?_, hb.out⟩
        symm
        rw [decide_eq_true_eq]
        exact upto_eq HN.out (fun t h1 h2 => he.out t h1 h2 h1)
  · have hd : decide (l = m) = false := by rw [decide_eq_false_iff_not]; rintro rfl; exact hn rfl
    have r1 : ((l.length : Int) != (m.length : Int)) = true := by simp; omega
    rw [hd]
    clear hd hn
    go_enter Try.func19, Try.ntmps19
    go_wp2
    go_ret
    exact ⟨rfl, Below.refl _ _⟩
attribute [local go_sem high] eqCC
theorem cel_rd {w : World} {A : Option Addr} {l : List Cel} (h : GR.Rd celK w A l) (i : Nat) (hi : i < l.length) : ∃ ad, A = some ad ∧ w.cell? (ad.add (i * 3)) = some (.int .i16 l[i].n.toInt) ∧
    w.cell? ⟨(ad.add (i * 3)).block, (ad.add (i * 3)).off + 1, none⟩ = some (.int .u64 (l[i].x.toNat : Int)) ∧ w.cell? ⟨(ad.add (i * 3)).block, (ad.add (i * 3)).off + 2, none⟩ = some (.int .u32 (l[i].h.toNat : Int)) := by
  obtain ⟨ad, e, hb, hc⟩ := h.at_ i hi
  have hoff : ∀ (n j : Nat), 0 < j → ad.add (n + j) = ⟨(ad.add n).block, (ad.add n).off + j, none⟩ := by
    intro n j hj
    unfold Addr.add
    by_cases hn : n = 0
    · subst hn; simp [show ¬ (j = 0) by omega]
    · simp [hn, show ¬ (n + j = 0) by omega, Nat.add_assoc]
  refine ⟨ad, e, hc 0 _ rfl, ?_, ?_⟩
  · rw [← hoff (i * 3) 1 (by omega)]; exact hc 1 _ rfl
  · rw [← hoff (i * 3) 2 (by omega)]; exact hc 2 _ rfl
set_option maxRecDepth 100000 in
set_option maxHeartbeats 6400000 in
theorem sameCells_any (A B : Option Addr) (c d : Nat) (l m : List Cel) (w : World) (hl : GR.Rd celK w A l) (hm : GR.Rd celK w B m) :
    Calls Try.prog 22 #[.slice A l.length c, .slice B m.length d] w fun e w' => e = .returned (.bool (decide (l = m))) ∧ Below w.heap.size w w' := by
  have bl : l.length * 24 ≤ 140737488355328 := hl.max
  have bm : m.length * 24 ≤ 140737488355328 := hm.max
  have HL := Lib.hid hl
  have HM := Lib.hid hm
  clear hl hm
  by_cases hn : l.length = m.length
  · have HN := Lib.hid hn
    rw [← hn]
    clear hn bm
    go_enter Try.func22, Try.ntmps22
    go_wp2_with fail
    go_loopw [5] (fun i w' => ∃ k : Nat, k ≤ l.length ∧ i = .int .i64 k ∧ Hid (∀ t (h1 : t < l.length) (h2 : t < m.length), t < k → l[t] = m[t]) ∧ Hid (Below w.heap.size w w')) (fun i _ => l.length - (intOf i).toNat)
    case atStart => exact ⟨0, Nat.zero_le _, rfl, Lib.hid (fun t _ _ h => absurd h (Nat.not_lt_zero _)), Lib.hid (Below.refl _ _)⟩
    case round =>
      obtain ⟨W0, hw_⟩ : ∃ x : World, x = wr := ⟨_, rfl⟩
      subst hw_
      obtain ⟨k, hk, rfl, he, hb⟩ := hrel
      by_cases hlt : k < l.length
      · have i0 : (0 : Int) ≤ (k : Int) := by omega
        have i1 : (k : Int) < (l.length : Int) := by omega
        have hkm : k < m.length := by rw [← HN.out]; exact hlt
        obtain ⟨ad, rfl, a0, a1, a2⟩ := cel_rd (HL.out.below hb.out) k hlt
        obtain ⟨bd, rfl, b0, b1, b2⟩ := cel_rd (HM.out.below hb.out) k hkm
        obtain ⟨x, hx⟩ : ∃ x, x = l[k] := ⟨_, rfl⟩
        obtain ⟨y, hy⟩ : ∃ y, y = m[k] := ⟨_, rfl⟩
        rw [← hx] at a0 a1 a2
        rw [← hy] at b0 b1 b2
        have HX := Lib.hid hx
        have HY := Lib.hid hy
        clear hx hy
        have d0 := over_cell a0
        have d1 := over_cell a1
        have d2 := over_cell a2
        have g0 := over_cell b0
        have g1 := over_cell b1
        have g2 := over_cell b2
        clear a0 a1 a2 b0 b1 b2
        by_cases hxy : x = y
        · have r1 : (x == y) = true := by simp [hxy]
          have HE := Lib.hid hxy
          clear hxy
          go_upto_region 6 with fail
          refine over_region (W := W0) (by kernel_rfl) (by kernel_rfl) (by repeat (first | exact Below.refl _ _ | refine bl_drewN ?_ _ | refine bl_drew ?_ | refine bl_alloc ?_ _)) ?_
          repeat (go_big_quiet_step (fail))
          refine wpQuiet_nil ?_
          intro _ hx_
          obtain ⟨x_, hx_⟩ := hx_
          subst hx_
          obtain ⟨w2, hb2⟩ := x_
          dsimp only
          have HB := Lib.hid (bl_then hb.out hb2)
          clear hb2 d0 d1 d2 g0 g1 g2
          go_wp2
          go_roundw
          case rel => exact ⟨k + 1, by omega, by go_num, Lib.hid (fun t h1 h2 ht => by
            rcases Nat.lt_succ_iff_lt_or_eq.1 ht with h | rfl
            · exact he.out t h1 h2 h
            · rw [← HX.out, ← HY.out]; exact HE.out), HB⟩
          case measure => simp [intOf]; omega
        · have r1 : (x == y) = false := by simpa using hxy
          have HE := Lib.hid hxy
          clear hxy
          go_upto_region 6 with fail
          refine over_region (W := W0) (by kernel_rfl) (by kernel_rfl) (by repeat (first | exact Below.refl _ _ | refine bl_drewN ?_ _ | refine bl_drew ?_ | refine bl_alloc ?_ _)) ?_
          repeat (go_big_quiet_step (fail))
          refine wpQuiet_nil ?_
          intro _ hx_
          obtain ⟨x_, hx_⟩ := hx_
          subst hx_
          obtain ⟨w2, hb2⟩ := x_
          dsimp only
          have HB := Lib.hid (bl_then hb.out hb2)
          clear hb2 d0 d1 d2 g0 g1 g2
          go_wp2
          go_ret
          refine ⟨ret_bool ?_, HB.out⟩
          symm
          rw [decide_eq_false_iff_not]
          rintro rfl
          exact HE.out (by rw [HX.out, HY.out])
      · obtain rfl : k = l.length := by omega
        go_wp2
        go_ret
        refine ⟨ret_bool ?_, hb.out⟩
        symm
        rw [decide_eq_true_eq]
        exact upto_eq HN.out (fun t h1 h2 => he.out t h1 h2 h1)
  · have hd : decide (l = m) = false := by rw [decide_eq_false_iff_not]; rintro rfl; exact hn rfl
    have r1 : ((l.length : Int) != (m.length : Int)) = true := by simp; omega
    rw [hd]
    clear hd hn
    go_enter Try.func22, Try.ntmps22
    go_wp2
    go_ret
    exact ⟨rfl, Below.refl _ _⟩
end Go.Proofs.Ytpklkjekkbpeoaa
