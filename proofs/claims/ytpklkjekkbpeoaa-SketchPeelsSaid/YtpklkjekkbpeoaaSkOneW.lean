/- DERIVED. SketchOne: the walk of the law. -/
import Derived.Test.YtpklkjekkbpeoaaSkWorks
namespace Go.Proofs.Ytpklkjekkbpeoaa
open Go.RowKit
set_option linter.unusedVariables false
set_option linter.unusedSimpArgs false
attribute [local irreducible] mixN arrW arrB

theorem take_snocI {l : List It} {k : Nat} (h : k < l.length) : l.take (k + 1) = l.take k ++ [l[k]] := by
  rw [List.take_add_one, List.getElem?_eq_getElem h]; rfl
theorem lay_next (b : BitVec 16) (L : List Cel) (l : List It) (k : Nat) (h : k < l.length) : layC l[k] b (layAll b L (l.take k)) = layAll b L (l.take (k + 1)) := by
  rw [take_snocI h, layAll_snoc]
theorem lay_prev (L : List Cel) (l : List It) (k : Nat) (h : k < l.length) : layC l[k] (-1) (layAll 1 L (l.take (k + 1))) = layAll 1 L (l.take k) := by
  rw [take_snocI h, layAll_snoc, layC_undo]
theorem lay_first (x : It) (L : List Cel) (l : List It) : layC x (-1) (layAll 1 (layC x 1 L) l) = layAll 1 L l := by
  rw [layAll_out, layC_undo]
def NewAs (v : Int) (n : Nat) : Prop := ∀ w : World, Calls Try.prog 16 #[.int .i64 v] w fun e w' => (∃ g, e = .returned (.tuple #[.pointer (some ⟨g, 0, none⟩), .int .i64 0]) ∧ w.heap.size ≤ g ∧ ∃ c cap, Skt w' w.heap.size g c cap (zL n)) ∧ Below w.heap.size w w'
theorem new_as (v : Int) (n : Nat) (hv : v = n) (h3 : 3 ≤ n) (hn : n ≤ 256) : NewAs v n := fun w => by subst hv; exact newS_any n h3 hn w
set_option maxRecDepth 100000 in
set_option maxHeartbeats 51200000 in
theorem one_walk (x : It) (cells : Int) (A : Option Addr) (c : Nat) (l : List It) (w : World) (hl : GR.Rd itK w A l) :
    Calls Try.prog 5 #[.int .u64 (x.toNat : Int), .int .i64 cells, .slice A l.length c] w fun e w' => e = .returned (.bool true) ∧ Below w.heap.size w w' := by
  have bl : l.length * 8 ≤ 140737488355328 := hl.max
  have HL := Lib.hid hl
  clear hl
  have hcase : (cells < 3 ∨ (¬ cells < 3 ∧ 256 < cells)) ∨ (¬ cells < 3 ∧ ¬ 256 < cells) := by omega
  rcases hcase with (h | ⟨h, h'⟩) | ⟨h, h'⟩
  · obtain ⟨n, h3, hn, hnew⟩ : ∃ n : Nat, 3 ≤ n ∧ n ≤ 256 ∧ Hid (NewAs 3 n) := ⟨3, by omega, by omega, Lib.hid (new_as 3 3 (by omega) (by omega) (by omega))⟩
    go_enter Try.func5, Try.ntmps5
    go_upto_region 5 with (go_at_call 18; refine (works_any w).mono ?_; rintro e w1 ⟨rfl, hb⟩; have B1 := Lib.hid hb; clear hb)
    clear h
    go_wp2_with fail
    refine (hnew.out w1).mono ?_
    rintro e w2 ⟨⟨g1, rfl, hg1, c1, e1, hs⟩, hb⟩
    have S2 := Lib.hid hs
    have B2 := Lib.hid (bl_then B1.out hb)
    have L1 := B1.out.size
    have L2 := Below.size hb
    clear hs hb
    go_wp2_with fail
    refine (hnew.out w2).mono ?_
    rintro e w3 ⟨⟨g2, rfl, hg2, c2, e2, hs⟩, hb⟩
    have T3 := Lib.hid hs
    have S3 := Lib.hid (S2.out.below hb)
    have B3 := Lib.hid (bl_then B2.out hb)
    have hc1 := S2.out.clt
    have hg1' := S2.out.b.lt
    have hc2 := T3.out.clt
    have n1 : c1 ≠ c2 := by omega
    have n2 : g1 ≠ c2 := by omega
    have n3 : c2 ≠ c1 := by omega
    have n4 : g2 ≠ c1 := by omega
    have q1 : w.heap.size ≤ w1.heap.size := L1
    have q2 : w.heap.size ≤ w2.heap.size := by omega
    clear hs hb hc1 hc2 hg1 hg1' hg2 L1 L2 hnew
    go_wp2_with fail
    refine (add_s x S3.out).mono ?_
    rintro e w4 ⟨rfl, hs, hg⟩
    have S4 := Lib.hid hs
    have T4 := Lib.hid (T3.out.far hg n3 n4)
    have B4 := Lib.hid (bl_laid B3.out S3.out q1 hg)
    clear hs hg
    go_wp2_with fail
    refine (take_s x T4.out).mono ?_
    rintro e w5 ⟨rfl, hs, hg⟩
    have T5 := Lib.hid hs
    have S5 := Lib.hid (S4.out.far hg n1 n2)
    have B5 := Lib.hid (bl_laid B4.out T4.out q2 hg)
    clear hs hg
    obtain ⟨r, hr⟩ : ∃ r, n = r + 1 := ⟨n - 1, by omega⟩
    have hle1 : (layC x 1 (zL n)).length = n := by rw [layC_length, zL_length]
    have hle2 : (layC x (-1) (zL n)).length = n := by rw [layC_length, zL_length]
    have hpe1 : peelN (layC x 1 (zL n)).length (layC x 1 (zL n)) [] [] = (zL n, [x], []) := by rw [hle1, hr]; exact peel_one r (r + 1) (by omega) x
    have hpe2 : peelN (layC x (-1) (zL n)).length (layC x (-1) (zL n)) [] [] = (zL n, [], [x]) := by rw [hle2, hr]; exact peel_less r (r + 1) (by omega) x
    have HR := Lib.hid hr
    clear hr hle1 hle2
    have hp := peel_any _ g1 c1 e1 (layC x 1 (zL n)) [x] [] w5 S5.out (by rw [hpe1]; exact sort_small [x] (by simp)) (by rw [hpe1]; exact sort_small [] (by simp))
    rw [hpe1, zeroB_zL] at hp
    go_wp2_with fail
    refine (hp).mono ?_
    rintro e w6 ⟨A1, d1, A2, d2, rfl, o1, o2, hb⟩
    have O6 := Lib.hid o1
    have S6 := Lib.hid (S5.out.below hb)
    have T6 := Lib.hid (T5.out.below hb)
    have B6 := Lib.hid (bl_then B5.out hb)
    clear o1 o2 hb hp hpe1
    have hp := peel_any _ g2 c2 e2 (layC x (-1) (zL n)) [] [x] w6 T6.out (by rw [hpe2]; exact sort_small [] (by simp)) (by rw [hpe2]; exact sort_small [x] (by simp))
    rw [hpe2, zeroB_zL] at hp
    go_wp2_with fail
    refine (hp).mono ?_
    rintro e w7 ⟨A3, d3, A4, d4, rfl, o3, o4, hb⟩
    have O7 := Lib.hid (O6.out.below hb)
    have Q7 := Lib.hid o4
    have S7 := Lib.hid (S6.out.below hb)
    have B7 := Lib.hid (bl_then B6.out hb)
    clear o3 o4 hb hp hpe2 T3 T4 T5 T6 S2 S3 S4 S5 S6 B1 B2 B3 B4 B5 B6 O6 n1 n2 n3 n4
    go_wp2_with fail
    obtain ⟨w8, hw8⟩ : ∃ w8, w8 = w7.alloc (.cells #[.int .u64 (x.toNat : Int)] 24) := ⟨_, rfl⟩
    rw [← hw8]
    have R8 : GR.Rd itK w8 (some ⟨w7.heap.size, 0, none⟩) [x] := by rw [hw8]; exact GR.rd_new (K := itK) (W := w7) x rfl (by show (8 : Nat) ≤ _; omega)
    have P8 : GR.Rd itK w8 A1 [x] := by rw [hw8]; exact (O7.out.rd (by show (1 : Nat) * 8 ≤ _; omega)).2.2.alloc _
    have Q8 := Lib.hid (show GR.Own itK w8 w6.heap.size (.slice A4 [x].length d4) [x] from by rw [hw8]; exact Q7.out.alloc _)
    have S8 := Lib.hid (show Skt w8 w1.heap.size g1 c1 e1 (layC x 1 (zL n)) from by rw [hw8]; exact S7.out.below (by repeat (first | exact Below.refl _ _ | refine bl_drewN ?_ _ | refine bl_drew ?_ | refine bl_alloc ?_ _)))
    have B8 := Lib.hid (show Below w.heap.size w w8 from by rw [hw8]; exact bl_alloc B7.out _)
    clear hw8 O7 Q7 S7 B7
    refine (sameItems_any A1 (some ⟨w7.heap.size, 0, none⟩) d1 1 [x] [x] w8 P8 R8).mono ?_
    rintro e w9 ⟨rfl, hb⟩
    rw [show decide (([x] : List It) = [x]) = true from by simp]
    have Q9 := Lib.hid (Q8.out.below hb)
    have S9 := Lib.hid (S8.out.below hb)
    have B9 := Lib.hid (bl_then B8.out hb)
    clear hb P8 R8 Q8 S8 B8
    go_wp2_with fail
    obtain ⟨v8, hw8⟩ : ∃ v8, v8 = w9.alloc (.cells #[.int .u64 (x.toNat : Int)] 24) := ⟨_, rfl⟩
    rw [← hw8]
    have R8 : GR.Rd itK v8 (some ⟨w9.heap.size, 0, none⟩) [x] := by rw [hw8]; exact GR.rd_new (K := itK) (W := w9) x rfl (by show (8 : Nat) ≤ _; omega)
    have P8 : GR.Rd itK v8 A4 [x] := by rw [hw8]; exact (Q9.out.rd (by show (1 : Nat) * 8 ≤ _; omega)).2.2.alloc _
    have S8 := Lib.hid (show Skt v8 w1.heap.size g1 c1 e1 (layC x 1 (zL n)) from by rw [hw8]; exact S9.out.below (by repeat (first | exact Below.refl _ _ | refine bl_drewN ?_ _ | refine bl_drew ?_ | refine bl_alloc ?_ _)))
    have B8 := Lib.hid (show Below w.heap.size w v8 from by rw [hw8]; exact bl_alloc B9.out _)
    clear hw8 Q9 S9 B9
    refine (sameItems_any A4 (some ⟨w9.heap.size, 0, none⟩) d4 1 [x] [x] v8 P8 R8).mono ?_
    rintro e v9 ⟨rfl, hb⟩
    rw [show decide (([x] : List It) = [x]) = true from by simp]
    have S9 := Lib.hid (S8.out.below hb)
    have B9 := Lib.hid (bl_then B8.out hb)
    clear hb P8 R8 S8 B8
    go_wp2_with fail
    go_loopw [17] (fun i w' => ∃ k : Nat, k ≤ l.length ∧ i = .int .i64 k ∧ Hid (Skt w' w1.heap.size g1 c1 e1 (layAll 1 (layC x 1 (zL n)) (l.take k))) ∧ Hid (Below w.heap.size w w')) (fun i _ => l.length - (intOf i).toNat)
    case atStart => exact ⟨0, Nat.zero_le _, rfl, S9, B9⟩
    case round =>
      obtain ⟨W0, hw_⟩ : ∃ x : World, x = wr := ⟨_, rfl⟩
      subst hw_
      obtain ⟨k, hk, rfl, ss, bb⟩ := hrel
      by_cases hlt : k < l.length
      · have i0 : (0 : Int) ≤ (k : Int) := by omega
        have i1 : (k : Int) < (l.length : Int) := by omega
        obtain ⟨ad, rfl, _, a0⟩ := it_at (HL.out.below bb.out) k hlt
        have ha := add_s l[k] ss.out
        rw [lay_next 1 _ l k hlt] at ha
        go_wp2_with (go_at_call 12; refine (ha).mono ?_; rintro e w4 ⟨rfl, hs, hg⟩; have S4 := Lib.hid hs; have B4 := Lib.hid (bl_laid bb.out ss.out q1 hg); clear hs hg)
        go_roundw
        case rel => exact ⟨k + 1, by omega, by go_num, S4, B4⟩
        case measure => simp [intOf]; omega
      · obtain rfl : k = l.length := by omega
        rw [List.take_length] at ss
        have ht := take_s x ss.out
        rw [lay_first] at ht
        have e0 : wrap64 ((l.length : Int) - 1) = (l.length : Int) - 1 := by unfold wrap64; omega
        go_wp2_with (go_at_call 13; refine (ht).mono ?_; rintro e w4 ⟨rfl, hs, hg⟩; have S4 := Lib.hid hs; have B4 := Lib.hid (bl_laid bb.out ss.out q1 hg); clear hs hg)
        go_loopw [18] (fun i w' => ∃ k : Nat, k ≤ l.length ∧ i = .int .i64 ((k : Int) - 1) ∧ Hid (Skt w' w1.heap.size g1 c1 e1 (layAll 1 (zL n) (l.take k))) ∧ Hid (Below w.heap.size w w')) (fun i _ => (intOf i + 1).toNat)
        case atStart => exact ⟨l.length, Nat.le_refl _, rfl, by rw [List.take_length]; exact S4, B4⟩
        case round =>
          clear ss bb ht e0
          obtain ⟨W1, hw_⟩ : ∃ x : World, x = wr := ⟨_, rfl⟩
          subst hw_
          obtain ⟨k, hk, rfl, ss, bb⟩ := hrel
          rcases k with _ | k
          · have hle : (zL n).length = n := zL_length n
            have hp := peel_any _ g1 c1 e1 (zL n) [] [] W1 ss.out (by rw [peel_zero]; exact sort_small [] (by simp)) (by rw [peel_zero]; exact sort_small [] (by simp))
            rw [peel_zero, zeroB_zL] at hp
            go_wp2_with (go_at_call 15; refine (hp).mono ?_; rintro e w6 ⟨A5, d5, A6, d6, rfl, o1, o2, hb⟩; have B6 := Lib.hid (bl_then bb.out hb); clear hb o1 o2)
            go_ret
            exact ⟨rfl, B6.out⟩
          · have hlt : k < l.length := by omega
            rw [show (((k + 1 : Nat) : Int) - 1) = (k : Int) from by omega]
            have i0 : (0 : Int) ≤ (k : Int) := by omega
            have i1 : (k : Int) < (l.length : Int) := by omega
            obtain ⟨ad, rfl, _, a0⟩ := it_at (HL.out.below bb.out) k hlt
            have ha := take_s l[k] ss.out
            rw [lay_prev _ l k hlt] at ha
            go_wp2_with (go_at_call 13; refine (ha).mono ?_; rintro e w4 ⟨rfl, hs, hg⟩; have S4 := Lib.hid hs; have B4 := Lib.hid (bl_laid bb.out ss.out q1 hg); clear hs hg)
            go_roundw
            case rel => exact ⟨k, by omega, by go_num, S4, B4⟩
            case measure => simp [intOf]
  · obtain ⟨n, h3, hn, hnew⟩ : ∃ n : Nat, 3 ≤ n ∧ n ≤ 256 ∧ Hid (NewAs 3 n) := ⟨3, by omega, by omega, Lib.hid (new_as 3 3 (by omega) (by omega) (by omega))⟩
    go_enter Try.func5, Try.ntmps5
    go_upto_region 5 with (go_at_call 18; refine (works_any w).mono ?_; rintro e w1 ⟨rfl, hb⟩; have B1 := Lib.hid hb; clear hb)
    clear h h'
    go_wp2_with fail
    refine (hnew.out w1).mono ?_
    rintro e w2 ⟨⟨g1, rfl, hg1, c1, e1, hs⟩, hb⟩
    have S2 := Lib.hid hs
    have B2 := Lib.hid (bl_then B1.out hb)
    have L1 := B1.out.size
    have L2 := Below.size hb
    clear hs hb
    go_wp2_with fail
    refine (hnew.out w2).mono ?_
    rintro e w3 ⟨⟨g2, rfl, hg2, c2, e2, hs⟩, hb⟩
    have T3 := Lib.hid hs
    have S3 := Lib.hid (S2.out.below hb)
    have B3 := Lib.hid (bl_then B2.out hb)
    have hc1 := S2.out.clt
    have hg1' := S2.out.b.lt
    have hc2 := T3.out.clt
    have n1 : c1 ≠ c2 := by omega
    have n2 : g1 ≠ c2 := by omega
    have n3 : c2 ≠ c1 := by omega
    have n4 : g2 ≠ c1 := by omega
    have q1 : w.heap.size ≤ w1.heap.size := L1
    have q2 : w.heap.size ≤ w2.heap.size := by omega
    clear hs hb hc1 hc2 hg1 hg1' hg2 L1 L2 hnew
    go_wp2_with fail
    refine (add_s x S3.out).mono ?_
    rintro e w4 ⟨rfl, hs, hg⟩
    have S4 := Lib.hid hs
    have T4 := Lib.hid (T3.out.far hg n3 n4)
    have B4 := Lib.hid (bl_laid B3.out S3.out q1 hg)
    clear hs hg
    go_wp2_with fail
    refine (take_s x T4.out).mono ?_
    rintro e w5 ⟨rfl, hs, hg⟩
    have T5 := Lib.hid hs
    have S5 := Lib.hid (S4.out.far hg n1 n2)
    have B5 := Lib.hid (bl_laid B4.out T4.out q2 hg)
    clear hs hg
    obtain ⟨r, hr⟩ : ∃ r, n = r + 1 := ⟨n - 1, by omega⟩
    have hle1 : (layC x 1 (zL n)).length = n := by rw [layC_length, zL_length]
    have hle2 : (layC x (-1) (zL n)).length = n := by rw [layC_length, zL_length]
    have hpe1 : peelN (layC x 1 (zL n)).length (layC x 1 (zL n)) [] [] = (zL n, [x], []) := by rw [hle1, hr]; exact peel_one r (r + 1) (by omega) x
    have hpe2 : peelN (layC x (-1) (zL n)).length (layC x (-1) (zL n)) [] [] = (zL n, [], [x]) := by rw [hle2, hr]; exact peel_less r (r + 1) (by omega) x
    have HR := Lib.hid hr
    clear hr hle1 hle2
    have hp := peel_any _ g1 c1 e1 (layC x 1 (zL n)) [x] [] w5 S5.out (by rw [hpe1]; exact sort_small [x] (by simp)) (by rw [hpe1]; exact sort_small [] (by simp))
    rw [hpe1, zeroB_zL] at hp
    go_wp2_with fail
    refine (hp).mono ?_
    rintro e w6 ⟨A1, d1, A2, d2, rfl, o1, o2, hb⟩
    have O6 := Lib.hid o1
    have S6 := Lib.hid (S5.out.below hb)
    have T6 := Lib.hid (T5.out.below hb)
    have B6 := Lib.hid (bl_then B5.out hb)
    clear o1 o2 hb hp hpe1
    have hp := peel_any _ g2 c2 e2 (layC x (-1) (zL n)) [] [x] w6 T6.out (by rw [hpe2]; exact sort_small [] (by simp)) (by rw [hpe2]; exact sort_small [x] (by simp))
    rw [hpe2, zeroB_zL] at hp
    go_wp2_with fail
    refine (hp).mono ?_
    rintro e w7 ⟨A3, d3, A4, d4, rfl, o3, o4, hb⟩
    have O7 := Lib.hid (O6.out.below hb)
    have Q7 := Lib.hid o4
    have S7 := Lib.hid (S6.out.below hb)
    have B7 := Lib.hid (bl_then B6.out hb)
    clear o3 o4 hb hp hpe2 T3 T4 T5 T6 S2 S3 S4 S5 S6 B1 B2 B3 B4 B5 B6 O6 n1 n2 n3 n4
    go_wp2_with fail
    obtain ⟨w8, hw8⟩ : ∃ w8, w8 = w7.alloc (.cells #[.int .u64 (x.toNat : Int)] 24) := ⟨_, rfl⟩
    rw [← hw8]
    have R8 : GR.Rd itK w8 (some ⟨w7.heap.size, 0, none⟩) [x] := by rw [hw8]; exact GR.rd_new (K := itK) (W := w7) x rfl (by show (8 : Nat) ≤ _; omega)
    have P8 : GR.Rd itK w8 A1 [x] := by rw [hw8]; exact (O7.out.rd (by show (1 : Nat) * 8 ≤ _; omega)).2.2.alloc _
    have Q8 := Lib.hid (show GR.Own itK w8 w6.heap.size (.slice A4 [x].length d4) [x] from by rw [hw8]; exact Q7.out.alloc _)
    have S8 := Lib.hid (show Skt w8 w1.heap.size g1 c1 e1 (layC x 1 (zL n)) from by rw [hw8]; exact S7.out.below (by repeat (first | exact Below.refl _ _ | refine bl_drewN ?_ _ | refine bl_drew ?_ | refine bl_alloc ?_ _)))
    have B8 := Lib.hid (show Below w.heap.size w w8 from by rw [hw8]; exact bl_alloc B7.out _)
    clear hw8 O7 Q7 S7 B7
    refine (sameItems_any A1 (some ⟨w7.heap.size, 0, none⟩) d1 1 [x] [x] w8 P8 R8).mono ?_
    rintro e w9 ⟨rfl, hb⟩
    rw [show decide (([x] : List It) = [x]) = true from by simp]
    have Q9 := Lib.hid (Q8.out.below hb)
    have S9 := Lib.hid (S8.out.below hb)
    have B9 := Lib.hid (bl_then B8.out hb)
    clear hb P8 R8 Q8 S8 B8
    go_wp2_with fail
    obtain ⟨v8, hw8⟩ : ∃ v8, v8 = w9.alloc (.cells #[.int .u64 (x.toNat : Int)] 24) := ⟨_, rfl⟩
    rw [← hw8]
    have R8 : GR.Rd itK v8 (some ⟨w9.heap.size, 0, none⟩) [x] := by rw [hw8]; exact GR.rd_new (K := itK) (W := w9) x rfl (by show (8 : Nat) ≤ _; omega)
    have P8 : GR.Rd itK v8 A4 [x] := by rw [hw8]; exact (Q9.out.rd (by show (1 : Nat) * 8 ≤ _; omega)).2.2.alloc _
    have S8 := Lib.hid (show Skt v8 w1.heap.size g1 c1 e1 (layC x 1 (zL n)) from by rw [hw8]; exact S9.out.below (by repeat (first | exact Below.refl _ _ | refine bl_drewN ?_ _ | refine bl_drew ?_ | refine bl_alloc ?_ _)))
    have B8 := Lib.hid (show Below w.heap.size w v8 from by rw [hw8]; exact bl_alloc B9.out _)
    clear hw8 Q9 S9 B9
    refine (sameItems_any A4 (some ⟨w9.heap.size, 0, none⟩) d4 1 [x] [x] v8 P8 R8).mono ?_
    rintro e v9 ⟨rfl, hb⟩
    rw [show decide (([x] : List It) = [x]) = true from by simp]
    have S9 := Lib.hid (S8.out.below hb)
    have B9 := Lib.hid (bl_then B8.out hb)
    clear hb P8 R8 S8 B8
    go_wp2_with fail
    go_loopw [17] (fun i w' => ∃ k : Nat, k ≤ l.length ∧ i = .int .i64 k ∧ Hid (Skt w' w1.heap.size g1 c1 e1 (layAll 1 (layC x 1 (zL n)) (l.take k))) ∧ Hid (Below w.heap.size w w')) (fun i _ => l.length - (intOf i).toNat)
    case atStart => exact ⟨0, Nat.zero_le _, rfl, S9, B9⟩
    case round =>
      obtain ⟨W0, hw_⟩ : ∃ x : World, x = wr := ⟨_, rfl⟩
      subst hw_
      obtain ⟨k, hk, rfl, ss, bb⟩ := hrel
      by_cases hlt : k < l.length
      · have i0 : (0 : Int) ≤ (k : Int) := by omega
        have i1 : (k : Int) < (l.length : Int) := by omega
        obtain ⟨ad, rfl, _, a0⟩ := it_at (HL.out.below bb.out) k hlt
        have ha := add_s l[k] ss.out
        rw [lay_next 1 _ l k hlt] at ha
        go_wp2_with (go_at_call 12; refine (ha).mono ?_; rintro e w4 ⟨rfl, hs, hg⟩; have S4 := Lib.hid hs; have B4 := Lib.hid (bl_laid bb.out ss.out q1 hg); clear hs hg)
        go_roundw
        case rel => exact ⟨k + 1, by omega, by go_num, S4, B4⟩
        case measure => simp [intOf]; omega
      · obtain rfl : k = l.length := by omega
        rw [List.take_length] at ss
        have ht := take_s x ss.out
        rw [lay_first] at ht
        have e0 : wrap64 ((l.length : Int) - 1) = (l.length : Int) - 1 := by unfold wrap64; omega
        go_wp2_with (go_at_call 13; refine (ht).mono ?_; rintro e w4 ⟨rfl, hs, hg⟩; have S4 := Lib.hid hs; have B4 := Lib.hid (bl_laid bb.out ss.out q1 hg); clear hs hg)
        go_loopw [18] (fun i w' => ∃ k : Nat, k ≤ l.length ∧ i = .int .i64 ((k : Int) - 1) ∧ Hid (Skt w' w1.heap.size g1 c1 e1 (layAll 1 (zL n) (l.take k))) ∧ Hid (Below w.heap.size w w')) (fun i _ => (intOf i + 1).toNat)
        case atStart => exact ⟨l.length, Nat.le_refl _, rfl, by rw [List.take_length]; exact S4, B4⟩
        case round =>
          clear ss bb ht e0
          obtain ⟨W1, hw_⟩ : ∃ x : World, x = wr := ⟨_, rfl⟩
          subst hw_
          obtain ⟨k, hk, rfl, ss, bb⟩ := hrel
          rcases k with _ | k
          · have hle : (zL n).length = n := zL_length n
            have hp := peel_any _ g1 c1 e1 (zL n) [] [] W1 ss.out (by rw [peel_zero]; exact sort_small [] (by simp)) (by rw [peel_zero]; exact sort_small [] (by simp))
            rw [peel_zero, zeroB_zL] at hp
            go_wp2_with (go_at_call 15; refine (hp).mono ?_; rintro e w6 ⟨A5, d5, A6, d6, rfl, o1, o2, hb⟩; have B6 := Lib.hid (bl_then bb.out hb); clear hb o1 o2)
            go_ret
            exact ⟨rfl, B6.out⟩
          · have hlt : k < l.length := by omega
            rw [show (((k + 1 : Nat) : Int) - 1) = (k : Int) from by omega]
            have i0 : (0 : Int) ≤ (k : Int) := by omega
            have i1 : (k : Int) < (l.length : Int) := by omega
            obtain ⟨ad, rfl, _, a0⟩ := it_at (HL.out.below bb.out) k hlt
            have ha := take_s l[k] ss.out
            rw [lay_prev _ l k hlt] at ha
            go_wp2_with (go_at_call 13; refine (ha).mono ?_; rintro e w4 ⟨rfl, hs, hg⟩; have S4 := Lib.hid hs; have B4 := Lib.hid (bl_laid bb.out ss.out q1 hg); clear hs hg)
            go_roundw
            case rel => exact ⟨k, by omega, by go_num, S4, B4⟩
            case measure => simp [intOf]
  · obtain ⟨n, h3, hn, hnew⟩ : ∃ n : Nat, 3 ≤ n ∧ n ≤ 256 ∧ Hid (NewAs cells n) := ⟨cells.toNat, by omega, by omega, Lib.hid (new_as cells cells.toNat (by omega) (by omega) (by omega))⟩
    go_enter Try.func5, Try.ntmps5
    go_upto_region 5 with (go_at_call 18; refine (works_any w).mono ?_; rintro e w1 ⟨rfl, hb⟩; have B1 := Lib.hid hb; clear hb)
    clear h h'
    go_wp2_with fail
    refine (hnew.out w1).mono ?_
    rintro e w2 ⟨⟨g1, rfl, hg1, c1, e1, hs⟩, hb⟩
    have S2 := Lib.hid hs
    have B2 := Lib.hid (bl_then B1.out hb)
    have L1 := B1.out.size
    have L2 := Below.size hb
    clear hs hb
    go_wp2_with fail
    refine (hnew.out w2).mono ?_
    rintro e w3 ⟨⟨g2, rfl, hg2, c2, e2, hs⟩, hb⟩
    have T3 := Lib.hid hs
    have S3 := Lib.hid (S2.out.below hb)
    have B3 := Lib.hid (bl_then B2.out hb)
    have hc1 := S2.out.clt
    have hg1' := S2.out.b.lt
    have hc2 := T3.out.clt
    have n1 : c1 ≠ c2 := by omega
    have n2 : g1 ≠ c2 := by omega
    have n3 : c2 ≠ c1 := by omega
    have n4 : g2 ≠ c1 := by omega
    have q1 : w.heap.size ≤ w1.heap.size := L1
    have q2 : w.heap.size ≤ w2.heap.size := by omega
    clear hs hb hc1 hc2 hg1 hg1' hg2 L1 L2 hnew
    go_wp2_with fail
    refine (add_s x S3.out).mono ?_
    rintro e w4 ⟨rfl, hs, hg⟩
    have S4 := Lib.hid hs
    have T4 := Lib.hid (T3.out.far hg n3 n4)
    have B4 := Lib.hid (bl_laid B3.out S3.out q1 hg)
    clear hs hg
    go_wp2_with fail
    refine (take_s x T4.out).mono ?_
    rintro e w5 ⟨rfl, hs, hg⟩
    have T5 := Lib.hid hs
    have S5 := Lib.hid (S4.out.far hg n1 n2)
    have B5 := Lib.hid (bl_laid B4.out T4.out q2 hg)
    clear hs hg
    obtain ⟨r, hr⟩ : ∃ r, n = r + 1 := ⟨n - 1, by omega⟩
    have hle1 : (layC x 1 (zL n)).length = n := by rw [layC_length, zL_length]
    have hle2 : (layC x (-1) (zL n)).length = n := by rw [layC_length, zL_length]
    have hpe1 : peelN (layC x 1 (zL n)).length (layC x 1 (zL n)) [] [] = (zL n, [x], []) := by rw [hle1, hr]; exact peel_one r (r + 1) (by omega) x
    have hpe2 : peelN (layC x (-1) (zL n)).length (layC x (-1) (zL n)) [] [] = (zL n, [], [x]) := by rw [hle2, hr]; exact peel_less r (r + 1) (by omega) x
    have HR := Lib.hid hr
    clear hr hle1 hle2
    have hp := peel_any _ g1 c1 e1 (layC x 1 (zL n)) [x] [] w5 S5.out (by rw [hpe1]; exact sort_small [x] (by simp)) (by rw [hpe1]; exact sort_small [] (by simp))
    rw [hpe1, zeroB_zL] at hp
    go_wp2_with fail
    refine (hp).mono ?_
    rintro e w6 ⟨A1, d1, A2, d2, rfl, o1, o2, hb⟩
    have O6 := Lib.hid o1
    have S6 := Lib.hid (S5.out.below hb)
    have T6 := Lib.hid (T5.out.below hb)
    have B6 := Lib.hid (bl_then B5.out hb)
    clear o1 o2 hb hp hpe1
    have hp := peel_any _ g2 c2 e2 (layC x (-1) (zL n)) [] [x] w6 T6.out (by rw [hpe2]; exact sort_small [] (by simp)) (by rw [hpe2]; exact sort_small [x] (by simp))
    rw [hpe2, zeroB_zL] at hp
    go_wp2_with fail
    refine (hp).mono ?_
    rintro e w7 ⟨A3, d3, A4, d4, rfl, o3, o4, hb⟩
    have O7 := Lib.hid (O6.out.below hb)
    have Q7 := Lib.hid o4
    have S7 := Lib.hid (S6.out.below hb)
    have B7 := Lib.hid (bl_then B6.out hb)
    clear o3 o4 hb hp hpe2 T3 T4 T5 T6 S2 S3 S4 S5 S6 B1 B2 B3 B4 B5 B6 O6 n1 n2 n3 n4
    go_wp2_with fail
    obtain ⟨w8, hw8⟩ : ∃ w8, w8 = w7.alloc (.cells #[.int .u64 (x.toNat : Int)] 24) := ⟨_, rfl⟩
    rw [← hw8]
    have R8 : GR.Rd itK w8 (some ⟨w7.heap.size, 0, none⟩) [x] := by rw [hw8]; exact GR.rd_new (K := itK) (W := w7) x rfl (by show (8 : Nat) ≤ _; omega)
    have P8 : GR.Rd itK w8 A1 [x] := by rw [hw8]; exact (O7.out.rd (by show (1 : Nat) * 8 ≤ _; omega)).2.2.alloc _
    have Q8 := Lib.hid (show GR.Own itK w8 w6.heap.size (.slice A4 [x].length d4) [x] from by rw [hw8]; exact Q7.out.alloc _)
    have S8 := Lib.hid (show Skt w8 w1.heap.size g1 c1 e1 (layC x 1 (zL n)) from by rw [hw8]; exact S7.out.below (by repeat (first | exact Below.refl _ _ | refine bl_drewN ?_ _ | refine bl_drew ?_ | refine bl_alloc ?_ _)))
    have B8 := Lib.hid (show Below w.heap.size w w8 from by rw [hw8]; exact bl_alloc B7.out _)
    clear hw8 O7 Q7 S7 B7
    refine (sameItems_any A1 (some ⟨w7.heap.size, 0, none⟩) d1 1 [x] [x] w8 P8 R8).mono ?_
    rintro e w9 ⟨rfl, hb⟩
    rw [show decide (([x] : List It) = [x]) = true from by simp]
    have Q9 := Lib.hid (Q8.out.below hb)
    have S9 := Lib.hid (S8.out.below hb)
    have B9 := Lib.hid (bl_then B8.out hb)
    clear hb P8 R8 Q8 S8 B8
    go_wp2_with fail
    obtain ⟨v8, hw8⟩ : ∃ v8, v8 = w9.alloc (.cells #[.int .u64 (x.toNat : Int)] 24) := ⟨_, rfl⟩
    rw [← hw8]
    have R8 : GR.Rd itK v8 (some ⟨w9.heap.size, 0, none⟩) [x] := by rw [hw8]; exact GR.rd_new (K := itK) (W := w9) x rfl (by show (8 : Nat) ≤ _; omega)
    have P8 : GR.Rd itK v8 A4 [x] := by rw [hw8]; exact (Q9.out.rd (by show (1 : Nat) * 8 ≤ _; omega)).2.2.alloc _
    have S8 := Lib.hid (show Skt v8 w1.heap.size g1 c1 e1 (layC x 1 (zL n)) from by rw [hw8]; exact S9.out.below (by repeat (first | exact Below.refl _ _ | refine bl_drewN ?_ _ | refine bl_drew ?_ | refine bl_alloc ?_ _)))
    have B8 := Lib.hid (show Below w.heap.size w v8 from by rw [hw8]; exact bl_alloc B9.out _)
    clear hw8 Q9 S9 B9
    refine (sameItems_any A4 (some ⟨w9.heap.size, 0, none⟩) d4 1 [x] [x] v8 P8 R8).mono ?_
    rintro e v9 ⟨rfl, hb⟩
    rw [show decide (([x] : List It) = [x]) = true from by simp]
    have S9 := Lib.hid (S8.out.below hb)
    have B9 := Lib.hid (bl_then B8.out hb)
    clear hb P8 R8 S8 B8
    go_wp2_with fail
    go_loopw [17] (fun i w' => ∃ k : Nat, k ≤ l.length ∧ i = .int .i64 k ∧ Hid (Skt w' w1.heap.size g1 c1 e1 (layAll 1 (layC x 1 (zL n)) (l.take k))) ∧ Hid (Below w.heap.size w w')) (fun i _ => l.length - (intOf i).toNat)
    case atStart => exact ⟨0, Nat.zero_le _, rfl, S9, B9⟩
    case round =>
      obtain ⟨W0, hw_⟩ : ∃ x : World, x = wr := ⟨_, rfl⟩
      subst hw_
      obtain ⟨k, hk, rfl, ss, bb⟩ := hrel
      by_cases hlt : k < l.length
      · have i0 : (0 : Int) ≤ (k : Int) := by omega
        have i1 : (k : Int) < (l.length : Int) := by omega
        obtain ⟨ad, rfl, _, a0⟩ := it_at (HL.out.below bb.out) k hlt
        have ha := add_s l[k] ss.out
        rw [lay_next 1 _ l k hlt] at ha
        go_wp2_with (go_at_call 12; refine (ha).mono ?_; rintro e w4 ⟨rfl, hs, hg⟩; have S4 := Lib.hid hs; have B4 := Lib.hid (bl_laid bb.out ss.out q1 hg); clear hs hg)
        go_roundw
        case rel => exact ⟨k + 1, by omega, by go_num, S4, B4⟩
        case measure => simp [intOf]; omega
      · obtain rfl : k = l.length := by omega
        rw [List.take_length] at ss
        have ht := take_s x ss.out
        rw [lay_first] at ht
        have e0 : wrap64 ((l.length : Int) - 1) = (l.length : Int) - 1 := by unfold wrap64; omega
        go_wp2_with (go_at_call 13; refine (ht).mono ?_; rintro e w4 ⟨rfl, hs, hg⟩; have S4 := Lib.hid hs; have B4 := Lib.hid (bl_laid bb.out ss.out q1 hg); clear hs hg)
        go_loopw [18] (fun i w' => ∃ k : Nat, k ≤ l.length ∧ i = .int .i64 ((k : Int) - 1) ∧ Hid (Skt w' w1.heap.size g1 c1 e1 (layAll 1 (zL n) (l.take k))) ∧ Hid (Below w.heap.size w w')) (fun i _ => (intOf i + 1).toNat)
        case atStart => exact ⟨l.length, Nat.le_refl _, rfl, by rw [List.take_length]; exact S4, B4⟩
        case round =>
          clear ss bb ht e0
          obtain ⟨W1, hw_⟩ : ∃ x : World, x = wr := ⟨_, rfl⟩
          subst hw_
          obtain ⟨k, hk, rfl, ss, bb⟩ := hrel
          rcases k with _ | k
          · have hle : (zL n).length = n := zL_length n
            have hp := peel_any _ g1 c1 e1 (zL n) [] [] W1 ss.out (by rw [peel_zero]; exact sort_small [] (by simp)) (by rw [peel_zero]; exact sort_small [] (by simp))
            rw [peel_zero, zeroB_zL] at hp
            go_wp2_with (go_at_call 15; refine (hp).mono ?_; rintro e w6 ⟨A5, d5, A6, d6, rfl, o1, o2, hb⟩; have B6 := Lib.hid (bl_then bb.out hb); clear hb o1 o2)
            go_ret
            exact ⟨rfl, B6.out⟩
          · have hlt : k < l.length := by omega
            rw [show (((k + 1 : Nat) : Int) - 1) = (k : Int) from by omega]
            have i0 : (0 : Int) ≤ (k : Int) := by omega
            have i1 : (k : Int) < (l.length : Int) := by omega
            obtain ⟨ad, rfl, _, a0⟩ := it_at (HL.out.below bb.out) k hlt
            have ha := take_s l[k] ss.out
            rw [lay_prev _ l k hlt] at ha
            go_wp2_with (go_at_call 13; refine (ha).mono ?_; rintro e w4 ⟨rfl, hs, hg⟩; have S4 := Lib.hid hs; have B4 := Lib.hid (bl_laid bb.out ss.out q1 hg); clear hs hg)
            go_roundw
            case rel => exact ⟨k, by omega, by go_num, S4, B4⟩
            case measure => simp [intOf]
end Go.Proofs.Ytpklkjekkbpeoaa
