/- DERIVED. The difference of two sketches. -/
import Derived.Test.YtpklkjekkbpeoaaSkNew
import Derived.Test.YtpklkjekkbpeoaaSkPl3
import Derived.Deep.Cut
import Derived.Deep.CutRange
namespace Go.Proofs.Ytpklkjekkbpeoaa
open Go.RowKit
set_option linter.unusedVariables false
set_option linter.unusedSimpArgs false
attribute [local irreducible] mixN

/-- The first m cells less those of another list. -/
def subM (m : Nat) (L M : List Cel) : List Cel := L.mapIdx fun i c => if i < m then c.add (M.getD i zc).neg else c
@[simp] theorem subM_length (m : Nat) (L M : List Cel) : (subM m L M).length = L.length := by simp [subM]
theorem subM_get (m : Nat) (L M : List Cel) (i : Nat) (hi : i < L.length) : (subM m L M)[i]'(by simpa using hi) = if i < m then L[i].add (M.getD i zc).neg else L[i] := by simp [subM]
theorem subM_zero (L M : List Cel) : subM 0 L M = L := by
  apply List.ext_getElem (by simp)
  intro i h1 h2
  rw [subM_get 0 L M i h2]
  simp
theorem subM_step (m : Nat) (L M : List Cel) (hm : m < L.length) : (subM m L M).set m (L[m].add (M.getD m zc).neg) = subM (m + 1) L M := by
  apply List.ext_getElem (by simp)
  intro i h1 h2
  have hi : i < L.length := by simpa using h2
  rw [subM_get (m + 1) L M i hi, List.getElem_set]
  by_cases he : m = i
  · subst he
    rw [if_pos rfl, if_pos (by omega)]
  · rw [if_neg he, subM_get m L M i hi]
    by_cases hlt : i < m
    · rw [if_pos hlt, if_pos (by omega)]
    · rw [if_neg hlt, if_neg (by omega)]
theorem subM_all (L M : List Cel) (h : L.length = M.length) : subM L.length L M = addL L (negL M) := by
  apply List.ext_getElem (by simp [addL, negL, h])
  intro i h1 h2
  have hi : i < L.length := by simpa using h1
  rw [subM_get _ L M i hi, if_pos hi]
  simp only [addL, negL, List.getElem_zipWith, List.getElem_map]
  rw [List.getD_eq_getElem?_getD, List.getElem?_eq_getElem (by omega)]
  rfl
theorem i16_sub (a b : BitVec 16) : IntKind.i16.wrap (a.toInt - b.toInt) = (a + -b).toInt := by
  rw [← BitVec.sub_eq_add_neg, BitVec.toInt_sub, i16_b]
set_option maxRecDepth 100000 in
set_option maxHeartbeats 12800000 in
theorem minus_any (B g c cap B2 g2 c2 cap2 : Nat) (L M : List Cel) (w : World) (hs : Skt w B g c cap L) (ho : Skt w B2 g2 c2 cap2 M) (hl : L.length = M.length) :
    Calls Try.prog 14 #[.pointer (some ⟨g, 0, none⟩), .pointer (some ⟨g2, 0, none⟩)] w fun e w' => (∃ g', e = .returned (.tuple #[.pointer (some ⟨g', 0, none⟩), .int .i64 0]) ∧ w.heap.size ≤ g' ∧ ∃ c' cap', Skt w' w.heap.size g' c' cap' (addL L (negL M))) ∧ Below w.heap.size w w' := by
  have hc := cloneC_any c cap B L w.drew (by have := hs.n3; omega) hs.n2 hs.o.drew
  have c0 : w.cell? ⟨g, 0, none⟩ = some (.slice (some ⟨c, 0, none⟩) L.length cap) := hs.b.cell 0
  have c1 : w.cell? ⟨g2, 0, none⟩ = some (.slice (some ⟨c2, 0, none⟩) M.length cap2) := ho.b.cell 0
  have HS := Lib.hid hs
  have HO := Lib.hid ho
  have HL := Lib.hid hl
  clear hs ho
  rw [← hl] at c1
  clear hl
  go_enter Try.func14, Try.ntmps14
  go_wp2_with fail
  go_region
  go_wp2_with (go_at_call 39; refine (hc).mono ?_; rintro e w1 ⟨d, e2, rfl, h1, h2⟩; have O1 := Lib.hid h1; have B1 := Lib.hid (bl_then (bl_drew (Below.refl w.heap.size w)) h2); clear h1 h2; have c1' : w1.cell? ⟨g2, 0, none⟩ = some (.slice (some ⟨c2, 0, none⟩) L.length cap2) := (B1.out.cell HO.out.b.lt).trans c1; have hs1 : w.heap.size ≤ w1.heap.size := B1.out.size; have hg2 : g2 < w1.heap.size := Nat.lt_of_lt_of_le HO.out.b.lt hs1)
  obtain ⟨G, hG⟩ : ∃ G, G = w1.heap.size := ⟨_, rfl⟩
  obtain ⟨w2, hw2⟩ : ∃ w2, w2 = w1.alloc (.cells #[.slice (some ⟨d, 0, none⟩) L.length e2] 77) := ⟨_, rfl⟩
  have XG : Hid (GR.Blk w2 G 77 #[.slice (some ⟨d, 0, none⟩) L.length e2]) := Lib.hid (by rw [hw2]; exact newAt _ _ hG.symm)
  have XO : Hid (GR.Own celK w2 w.heap.size (.slice (some ⟨d, 0, none⟩) L.length e2) (subM 0 L M)) := Lib.hid (by rw [hw2, subM_zero]; exact O1.out.alloc _)
  have XB : Hid (Below w.heap.size w w2) := Lib.hid (by rw [hw2]; exact bl_alloc B1.out _)
  have hGw : w.heap.size ≤ G := by omega
  rw [← hG, ← hw2]
  clear hG hw2 c1' hs1 hg2 O1 B1 hc
  go_loopw [38] (fun i w' => ∃ k : Nat, k ≤ L.length ∧ i = .int .i64 k ∧ Hid (GR.Blk w' G 77 #[.slice (some ⟨d, 0, none⟩) L.length e2]) ∧ Hid (GR.Own celK w' w.heap.size (.slice (some ⟨d, 0, none⟩) L.length e2) (subM k L M)) ∧ Hid (Below w.heap.size w w')) (fun i _ => L.length - (intOf i).toNat)
  case atStart => exact ⟨0, Nat.zero_le _, rfl, XG, XO, XB⟩
  case round =>
    obtain ⟨k, hk, rfl, xg, xo, xb⟩ := hrel
    by_cases hlt : k < L.length
    · have i0 : (0 : Int) ≤ (k : Int) := by omega
      have i1 : (k : Int) < (L.length : Int) := by omega
      have n2 := HS.out.n2
      have hkM : k < M.length := by rw [← HL.out]; exact hlt
      have so := HO.out.below xb.out
      obtain ⟨y, hy⟩ : ∃ y, y = M[k] := ⟨_, rfl⟩
      obtain ⟨⟨a0, a1, a2⟩, _⟩ := cel_at so.o k hkM y hy.symm
      have HY := Lib.hid hy
      clear hy so
      go_upto_region 9 with fail
      clear a0 a1 a2
      obtain ⟨H, hH⟩ : ∃ H, H = wr.heap.size := ⟨_, rfl⟩
      obtain ⟨w3, hw3⟩ : ∃ w3, w3 = wr.alloc (.cells #[.int .i16 y.n.toInt, .int .u64 (y.x.toNat : Int), .int .u32 (y.h.toNat : Int)] 81) := ⟨_, rfl⟩
      rw [← hH, ← hw3]
      have yg : Hid (GR.Blk w3 H 81 #[.int .i16 y.n.toInt, .int .u64 (y.x.toNat : Int), .int .u32 (y.h.toNat : Int)]) := Lib.hid (by rw [hw3]; exact newAt _ _ hH.symm)
      have xg3 : Hid (GR.Blk w3 G 77 #[.slice (some ⟨d, 0, none⟩) L.length e2]) := Lib.hid (by rw [hw3]; exact xg.out.alloc _)
      have xo3 : Hid (GR.Own celK w3 w.heap.size (.slice (some ⟨d, 0, none⟩) L.length e2) (subM k L M)) := Lib.hid (by rw [hw3]; exact xo.out.alloc _)
      have xb3 : Hid (Below w.heap.size w w3) := Lib.hid (by rw [hw3]; exact bl_alloc xb.out _)
      have hdH : d < H := by have := (xo.out.lt d (by simp [Value.ownBlock])).2; omega
      have hGd : G ≠ d := fun e => GR.own_blk_ne xo3.out xg3.out (by decide) (by simp [Value.ownBlock, e])
      clear xg xo xb hw3 hH
      obtain ⟨x, hx⟩ : ∃ x, x = L[k] := ⟨_, rfl⟩
      obtain ⟨⟨a0, a1, a2⟩, f0, f1, f2⟩ := cel_at xo3.out k (by simpa using hlt) x ((subM_get k L M k hlt).trans (by rw [if_neg (by omega), hx]))
      have HX := Lib.hid hx
      clear hx
      have b0 : w3.cell? ⟨H, 0, none⟩ = some (.int .i16 y.n.toInt) := yg.out.cell 0
      have b1 : w3.cell? ⟨H, 1, none⟩ = some (.int .u64 (y.x.toNat : Int)) := yg.out.cell 1
      have b2 : w3.cell? ⟨H, 2, none⟩ = some (.int .u32 (y.h.toNat : Int)) := yg.out.cell 2
      have m0 : w3.cell? ⟨G, 0, none⟩ = some (.slice (some ⟨d, 0, none⟩) L.length e2) := xg3.out.cell 0
      have hHd : H ≠ d := by omega
      go_region
      rw [i16_sub]
      obtain ⟨w4, hw4⟩ : ∃ w4, w4 = (w3.setCell ⟨d, k * 3, none⟩ (.int .i16 (x.n + -y.n).toInt)).drew := ⟨_, rfl⟩
      rw [← hw4]
      have hw4' : ∀ q : Addr, q ≠ ⟨d, k * 3, none⟩ → w4.cell? q = w3.cell? q := fun q hq => by rw [hw4]; exact World.cell?_setCell_other _ _ _ _ (fun e => hq e.symm)
      have b1' := (hw4' ⟨H, 1, none⟩ (by simp <;> omega)).trans b1
      have b2' := (hw4' ⟨H, 2, none⟩ (by simp <;> omega)).trans b2
      have m0' := (hw4' ⟨G, 0, none⟩ (by simp <;> omega)).trans m0
      have a1' := (hw4' ⟨d, k * 3 + 1, none⟩ (by simp)).trans a1
      have a2' := (hw4' ⟨d, k * 3 + 2, none⟩ (by simp)).trans a2
      have f1' : w4.frozen? ⟨d, k * 3 + 1, none⟩ = false := by rw [hw4]; simpa using f1
      have f2' : w4.frozen? ⟨d, k * 3 + 2, none⟩ = false := by rw [hw4]; simpa using f2
      have HW4 := Lib.hid hw4
      clear hw4 hw4' b0 b1 b2 m0 a0 a1 a2 f0 f1 f2
      go_upto_region 10 with fail
      go_region
      rw [xor_64]
      obtain ⟨w5, hw5⟩ : ∃ w5, w5 = (w4.setCell ⟨d, k * 3 + 1, none⟩ (.int .u64 ((x.x ^^^ y.x).toNat : Int))).drew := ⟨_, rfl⟩
      rw [← hw5]
      have hw5' : ∀ q : Addr, q ≠ ⟨d, k * 3 + 1, none⟩ → w5.cell? q = w4.cell? q := fun q hq => by rw [hw5]; exact World.cell?_setCell_other _ _ _ _ (fun e => hq e.symm)
      have b2 := (hw5' ⟨H, 2, none⟩ (by simp <;> omega)).trans b2'
      have m0 := (hw5' ⟨G, 0, none⟩ (by simp <;> omega)).trans m0'
      have a2 := (hw5' ⟨d, k * 3 + 2, none⟩ (by simp)).trans a2'
      have f2 : w5.frozen? ⟨d, k * 3 + 2, none⟩ = false := by rw [hw5]; simpa using f2'
      have HW5 := Lib.hid hw5
      clear hw5 hw5' b1' b2' m0' a1' a2' f1' f2'
      go_upto_region 11 with fail
      go_region
      rw [xor_32]
      go_wp2
      go_roundw
      case rel =>
        have e4 := HW4.out
        have e5 := HW5.out
        have hst := subM_step k L M hlt
        have hD : M.getD k zc = y := by rw [List.getD_eq_getElem?_getD, List.getElem?_eq_getElem hkM, ← HY.out]; rfl
        rw [hD, ← HX.out] at hst
        refine ⟨k + 1, by omega, by simp, Lib.hid ?_, Lib.hid ?_, Lib.hid ?_⟩
        · rw [e5, e4]
          exact (((xg3.out.far hGd _).drew.far hGd _).drew.far hGd _).drew
        · rw [← hst, e5, e4]
          exact (own_setC xo3.out k (by simpa using hlt) (x.add y.neg)).drew
        · rw [e5, e4]
          have hd := (xo3.out.lt d (by simp [Value.ownBlock])).1
          exact bl_drew ((bl_drew ((bl_drew (xb3.out.setCell hd _)).setCell hd _)).setCell hd _)
      case measure => simp [intOf]; omega
    · obtain rfl : k = L.length := by omega
      go_wp2
      go_ret2
      have hx := xo.out
      rw [subM_all L M HL.out] at hx
      have hle : (addL L (negL M)).length = L.length := addL_length _ _ (by rw [negL_length]; exact HL.out)
      exact ⟨⟨G, rfl, hGw, d, e2, ⟨by rw [hle]; exact xg.out, by rw [hle]; exact hx, by rw [hle]; exact HS.out.n3, by rw [hle]; exact HS.out.n2⟩⟩, xb.out⟩
end Go.Proofs.Ytpklkjekkbpeoaa
