/- DERIVED. The sketch of some entries; how often an entry stands in a list. -/
import Derived.Test.YtpklkjekkbpeoaaSkWorks
namespace Go.Proofs.Ytpklkjekkbpeoaa
open Go.RowKit Go.Proofs.YtpklkjekkbpeoaaW.PrintWords
set_option linter.unusedVariables false
set_option linter.unusedSimpArgs false
attribute [local irreducible] mixN arrW arrB

def entK : GR.Kind Ent where
  e := 23
  s := 2
  b := 32
  enc := entC
  len := fun _ => rfl
  one := fun x u hu => by
    simp only [entC, List.mem_cons, List.not_mem_nil, or_false] at hu
    rcases hu with rfl | rfl <;> rfl
  hs := by decide
  hb := by decide
theorem ent_rd {w : World} {A : Option Addr} {l : List Ent} (h : Rd w A l) : GR.Rd entK w A l := ⟨by show l.length * 32 ≤ _; have := h.1; omega, h.reads⟩
theorem ent_at {w : World} {A : Option Addr} {l : List Ent} (h : GR.Rd entK w A l) (i : Nat) (hi : i < l.length) : ∃ ad, A = some ad ∧ w.cell? (ad.add (i * 2)) = some (.string l[i].key) ∧
    w.cell? ⟨(ad.add (i * 2)).block, (ad.add (i * 2)).off + 1, none⟩ = some (.string l[i].sum) := by
  obtain ⟨ad, e, hb, hc⟩ := h.at_ i hi
  refine ⟨ad, e, hc 0 _ rfl, ?_⟩
  have h1 := hc 1 _ rfl
  have hoff : ad.add (i * 2 + 1) = ⟨(ad.add (i * 2)).block, (ad.add (i * 2)).off + 1, none⟩ := by
    unfold Addr.add
    by_cases hn : i * 2 = 0
    · simp [hn]
    · simp [hn, Nat.add_assoc]
  rw [← hoff]; exact h1
/-- An entry's item. -/
def itemP (e : Ent) : It := BitVec.ofNat 64 (itN e.key e.sum 6)
theorem itemP_nat (e : Ent) : (itemP e).toNat = itN e.key e.sum 6 := by
  unfold itemP
  rw [BitVec.toNat_ofNat, Nat.mod_eq_of_lt]
  have h1 := itN_lt e.key e.sum 6
  have h2 : (4096 : Nat) * 256 ^ 6 ≤ 2 ^ 64 := by decide
  omega
theorem itemS_any (e : Ent) (h : e.key.size ≤ 1048576 ∧ e.sum.size ≤ 1048576) (w : World) :
    Calls Try.prog 9 #[.agg #[.string e.key, .string e.sum]] w fun r w' => r = .returned (.int .u64 ((itemP e).toNat : Int)) ∧ Below w.heap.size w w' := by
  rw [itemP_nat]
  exact skItem_any e.key e.sum h.1 h.2 w
set_option maxRecDepth 100000 in
set_option maxHeartbeats 6400000 in
theorem of_sk (A : Option Addr) (c : Nat) (l : List Ent) (n : Nat) (h3 : 3 ≤ n) (hn : n ≤ 256) (w : World) (hl : GR.Rd entK w A l) (hs : ∀ e ∈ l, e.key.size ≤ 1048576 ∧ e.sum.size ≤ 1048576) :
    Calls Try.prog 23 #[.slice A l.length c, .int .i64 (n : Int)] w fun e w' => (∃ g, e = .returned (.tuple #[.pointer (some ⟨g, 0, none⟩), .int .i64 0]) ∧ w.heap.size ≤ g ∧ ∃ c' cap', Skt w' w.heap.size g c' cap' (layAll 1 (zL n) (l.map itemP))) ∧ Below w.heap.size w w' := by
  have bl : l.length * 32 ≤ 140737488355328 := hl.max
  have HL := Lib.hid hl
  have HS := Lib.hid hs
  clear hl hs
  go_enter Try.func23, Try.ntmps23
  go_wp2_with fail
  refine (newS_any n h3 hn w).mono ?_
  rintro e w1 ⟨⟨g, rfl, hgs, c1, e1, hs⟩, hb⟩
  have S1 := Lib.hid hs
  have B1 := Lib.hid hb
  clear hs hb
  go_wp2_with fail
  go_loopw [20] (fun i w' => ∃ k : Nat, k ≤ l.length ∧ i = .int .i64 k ∧ Hid (Skt w' w.heap.size g c1 e1 (layAll 1 (zL n) ((l.take k).map itemP))) ∧ Hid (Below w.heap.size w w')) (fun i _ => l.length - (intOf i).toNat)
  case atStart => exact ⟨0, Nat.zero_le _, rfl, S1, B1⟩
  case round =>
    obtain ⟨W0, hw_⟩ : ∃ x : World, x = wr := ⟨_, rfl⟩
    subst hw_
    obtain ⟨k, hk, rfl, ss, bb⟩ := hrel
    by_cases hlt : k < l.length
    · have i0 : (0 : Int) ≤ (k : Int) := by omega
      have i1 : (k : Int) < (l.length : Int) := by omega
      obtain ⟨ad, rfl, a0, a1⟩ := ent_at (HL.out.below bb.out) k hlt
      obtain ⟨x, hx⟩ : ∃ x, x = l[k] := ⟨_, rfl⟩
      rw [← hx] at a0 a1
      have hi := itemS_any x (HS.out x (by rw [hx]; exact List.getElem_mem _))
      have hnx : layC (itemP x) 1 (layAll 1 (zL n) ((l.take k).map itemP)) = layAll 1 (zL n) ((l.take (k + 1)).map itemP) := by
        rw [List.take_add_one, List.getElem?_eq_getElem hlt, List.map_append, ← hx]
        show _ = layAll 1 (zL n) ((l.take k).map itemP ++ [itemP x])
        rw [layAll_snoc]
      have HN := Lib.hid hnx
      clear hnx hx
      go_upto_region 7 with fail
      obtain ⟨H, hH⟩ : ∃ H, H = W0.heap.size := ⟨_, rfl⟩
      obtain ⟨w2, hw2⟩ : ∃ w2, w2 = W0.alloc (.cells #[.string x.key, .string x.sum] 23) := ⟨_, rfl⟩
      rw [← hH, ← hw2]
      have yg : GR.Blk w2 H 23 #[.string x.key, .string x.sum] := by rw [hw2]; exact newAt _ _ hH.symm
      have B2 := Lib.hid (show Below w.heap.size w w2 from by rw [hw2]; exact bl_alloc bb.out _)
      have S2 := Lib.hid (show Skt w2 w.heap.size g c1 e1 (layAll 1 (zL n) ((l.take k).map itemP)) from by rw [hw2]; exact ss.out.below (by repeat (first | exact Below.refl _ _ | refine bl_drewN ?_ _ | refine bl_drew ?_ | refine bl_alloc ?_ _)))
      have b0 : w2.cell? ⟨H, 0, none⟩ = some (.string x.key) := yg.cell 0
      have b1 : w2.cell? ⟨H, 1, none⟩ = some (.string x.sum) := yg.cell 1
      clear a0 a1 hw2 hH yg
      go_wp2_with fail
      refine (hi w2).mono ?_
      rintro e w3 ⟨rfl, hb⟩
      have S3 := Lib.hid (S2.out.below hb)
      have B3 := Lib.hid (bl_then B2.out hb)
      clear hb b0 b1
      have ha := add_s (itemP x) S3.out
      rw [HN.out] at ha
      go_wp2_with (go_at_call 12; refine (ha).mono ?_; rintro e w4 ⟨rfl, hs, hg⟩; have S4 := Lib.hid hs; have B4 := Lib.hid (bl_laid B3.out S3.out (Nat.le_refl _) hg); clear hs hg)
      go_roundw
      case rel => exact ⟨k + 1, by omega, by go_num, S4, B4⟩
      case measure => simp [intOf]; omega
    · obtain rfl : k = l.length := by omega
      rw [List.take_length] at ss
      go_wp2
      go_ret2
      exact ⟨⟨g, rfl, hgs, c1, e1, ss.out⟩, bb.out⟩
theorem eqE (d : Nat) (w : World) (a b : Ent) :
    (Op.equalIn (d + 2) 23 (.agg #[.string a.key, .string a.sum]) (.agg #[.string b.key, .string b.sum])).run Try.prog w = .ok (decide (a = b)) w := by
  have : decide (a = b) = ((a.key.toList == b.key.toList) && (a.sum.toList == b.sum.toList)) := by
    have hs : ∀ x y : ByteArray, (x.toList == y.toList) = decide (x = y) := fun x y => by
      rw [Bool.eq_iff_iff]
      simp only [beq_iff_eq, decide_eq_true_eq, ByteArray.toList_eq]
      exact ⟨fun h => by obtain ⟨⟨x⟩⟩ := x; obtain ⟨⟨y⟩⟩ := y; simp only at h; rw [h], fun h => by rw [h]⟩
    rw [hs, hs, Bool.eq_iff_iff]
    simp only [Bool.and_eq_true, decide_eq_true_eq]
    exact ⟨fun h => by rw [h]; exact ⟨rfl, rfl⟩, fun h => by cases a; cases b; simp only at h; rw [h.1, h.2]⟩
  rw [this]
  refine eqA_of Try.underlying23 (by kernel_rfl) ?_
  refine eqf_cons (by rfl) (by go_simp; rfl) (by go_simp; rfl) (by go_simp) ?_
  exact eqf_last (by rfl) (by go_simp; rfl) (by go_simp; rfl) (by go_simp)
attribute [local go_sem high] eqE
set_option maxRecDepth 100000 in
set_option maxHeartbeats 6400000 in
theorem times_any (A : Option Addr) (c : Nat) (l : List Ent) (x : Ent) (w : World) (hl : GR.Rd entK w A l) :
    Calls Try.prog 24 #[.slice A l.length c, .agg #[.string x.key, .string x.sum]] w fun e w' => e = .returned (.int .i64 ((l.count x : Nat) : Int)) ∧ Below w.heap.size w w' := by
  have bl : l.length * 32 ≤ 140737488355328 := hl.max
  have HL := Lib.hid hl
  clear hl
  go_enter Try.func24, Try.ntmps24
  go_wp2_with fail
  obtain ⟨H, hH⟩ : ∃ H, H = w.heap.size := ⟨_, rfl⟩
  obtain ⟨w2, hw2⟩ : ∃ w2, w2 = w.alloc (.cells #[.string x.key, .string x.sum] 23) := ⟨_, rfl⟩
  rw [← hH, ← hw2]
  have yg : Hid (GR.Blk w2 H 23 #[.string x.key, .string x.sum]) := Lib.hid (by rw [hw2]; exact newAt _ _ hH.symm)
  have B2 := Lib.hid (show Below w.heap.size w w2 from by rw [hw2]; exact (by repeat (first | exact Below.refl _ _ | refine bl_drewN ?_ _ | refine bl_drew ?_ | refine bl_alloc ?_ _)))
  clear hw2 hH
  go_loopw [5, 6] (fun nv i w' => ∃ k : Nat, k ≤ l.length ∧ i = .int .i64 k ∧ nv = .int .i64 (((l.take k).count x : Nat) : Int) ∧ Hid (Below w2.heap.size w2 w')) (fun _ i _ => l.length - (intOf i).toNat)
  case atStart => exact ⟨0, Nat.zero_le _, rfl, rfl, Lib.hid (Below.refl _ _)⟩
  case round =>
    obtain ⟨W0, hw_⟩ : ∃ x : World, x = wr := ⟨_, rfl⟩
    subst hw_
    obtain ⟨k, hk, rfl, rfl, bb⟩ := hrel
    by_cases hlt : k < l.length
    · have i0 : (0 : Int) ≤ (k : Int) := by omega
      have i1 : (k : Int) < (l.length : Int) := by omega
      have hcl : (l.take k).count x ≤ k := Nat.le_trans List.count_le_length (by rw [List.length_take]; omega)
      obtain ⟨ad, rfl, a0, a1⟩ := ent_at ((HL.out.below B2.out).below bb.out) k hlt
      obtain ⟨y, hy⟩ : ∃ y, y = l[k] := ⟨_, rfl⟩
      rw [← hy] at a0 a1
      have b0 : W0.cell? ⟨H, 0, none⟩ = some (.string x.key) := (bb.out.cell yg.out.lt).trans (yg.out.cell 0)
      have b1 : W0.cell? ⟨H, 1, none⟩ = some (.string x.sum) := (bb.out.cell yg.out.lt).trans (yg.out.cell 1)
      have hcn : (l.take (k + 1)).count x = (l.take k).count x + (if y = x then 1 else 0) := by
        rw [List.take_add_one, List.getElem?_eq_getElem hlt, List.count_append, ← hy]
        simp [List.count_cons]
      have HC := Lib.hid hcn
      clear hcn hy
      have d0 := over_cell a0
      have d1 := over_cell a1
      have d2 := over_cell b0
      have d3 := over_cell b1
      clear a0 a1 b0 b1
      by_cases hyx : y = x
      · have r1 : decide (y = x) = true := decide_eq_true hyx
        have HE := Lib.hid hyx
        clear hyx
        go_upto_region 5 with fail
        refine over_region (W := W0) (by kernel_rfl) (by kernel_rfl) (by repeat (first | exact Below.refl _ _ | refine bl_drewN ?_ _ | refine bl_drew ?_ | refine bl_alloc ?_ _)) ?_
        repeat (go_big_quiet_step (fail))
        refine wpQuiet_nil ?_
        intro _ hx_
        obtain ⟨x_, hx_⟩ := hx_
        subst hx_
        obtain ⟨w3, hb3⟩ := x_
        dsimp only
        have B3 := Lib.hid (bl_then bb.out hb3)
        clear hb3 d0 d1 d2 d3
        go_wp2
        go_roundw
        case rel => exact ⟨k + 1, by omega, by go_num, by rw [HC.out, if_pos HE.out]; go_num, B3⟩
        case measure => simp [intOf]; omega
      · have r1 : decide (y = x) = false := decide_eq_false hyx
        have HE := Lib.hid hyx
        clear hyx
        go_upto_region 5 with fail
        refine over_region (W := W0) (by kernel_rfl) (by kernel_rfl) (by repeat (first | exact Below.refl _ _ | refine bl_drewN ?_ _ | refine bl_drew ?_ | refine bl_alloc ?_ _)) ?_
        repeat (go_big_quiet_step (fail))
        refine wpQuiet_nil ?_
        intro _ hx_
        obtain ⟨x_, hx_⟩ := hx_
        subst hx_
        obtain ⟨w3, hb3⟩ := x_
        dsimp only
        have B3 := Lib.hid (bl_then bb.out hb3)
        clear hb3 d0 d1 d2 d3
        go_wp2
        go_roundw
        case rel => exact ⟨k + 1, by omega, by go_num, by rw [HC.out, if_neg HE.out]; rfl, B3⟩
        case measure => simp [intOf]; omega
    · obtain rfl : k = l.length := by omega
      rw [List.take_length]
      go_wp2
      go_ret
      exact ⟨rfl, bl_then B2.out bb.out⟩
end Go.Proofs.Ytpklkjekkbpeoaa
