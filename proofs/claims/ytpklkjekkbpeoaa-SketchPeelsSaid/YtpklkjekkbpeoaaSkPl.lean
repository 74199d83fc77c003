/- DERIVED. The cells of a sketch, plainly: cells are added like numbers; an item is laid over three places. -/
import Derived.Test.YtpklkjekkbpeoaaSegBase
namespace Go.Proofs.Ytpklkjekkbpeoaa
set_option linter.unusedVariables false
set_option linter.unusedSimpArgs false

structure Cel where
  n : BitVec 16
  x : BitVec 64
  h : BitVec 32
deriving DecidableEq
def Cel.add (a b : Cel) : Cel := ⟨a.n + b.n, a.x ^^^ b.x, a.h ^^^ b.h⟩
def Cel.neg (a : Cel) : Cel := ⟨-a.n, a.x, a.h⟩
def zc : Cel := ⟨0, 0, 0⟩
theorem Cel.add_comm (a b : Cel) : a.add b = b.add a := by simp only [Cel.add, BitVec.add_comm a.n, BitVec.xor_comm a.x, BitVec.xor_comm a.h]
theorem Cel.add_assoc (a b c : Cel) : (a.add b).add c = a.add (b.add c) := by simp only [Cel.add, BitVec.add_assoc, BitVec.xor_assoc]
theorem Cel.add_zero (a : Cel) : a.add zc = a := by cases a; simp [Cel.add, zc]
theorem Cel.zero_add (a : Cel) : zc.add a = a := by rw [Cel.add_comm, Cel.add_zero]
theorem Cel.add_neg (a : Cel) : a.add a.neg = zc := by
  cases a
  simp only [Cel.add, Cel.neg, zc, BitVec.xor_self, Cel.mk.injEq]
  exact ⟨by simp [BitVec.add_right_neg], rfl, rfl⟩
theorem Cel.add_right (a b c : Cel) (h : a.add c = b.add c) : a = b := by
  have := congrArg (fun z => z.add c.neg) h
  simpa only [Cel.add_assoc, Cel.add_neg, Cel.add_zero] using this

/-- The mixing: the j-th number of an item. -/
def mix1 (z : Nat) : Nat := ((z ^^^ z / 1073741824) * 13787848793156543929) % 18446744073709551616
def mix2 (z : Nat) : Nat := ((z ^^^ z / 134217728) * 10723151780598845931) % 18446744073709551616
def mix3 (z : Nat) : Nat := z ^^^ z / 2147483648
def mixN (x j : Nat) : Nat := mix3 (mix2 (mix1 ((x + (j + 1) * 11400714819323198485 % 18446744073709551616) % 18446744073709551616)))
theorem mix1_lt (z : Nat) : mix1 z < 18446744073709551616 := Nat.mod_lt _ (by omega)
theorem mix2_lt (z : Nat) : mix2 z < 18446744073709551616 := Nat.mod_lt _ (by omega)
theorem mix3_lt {z : Nat} (h : z < 18446744073709551616) : mix3 z < 18446744073709551616 := by
  have h1 : z / 2147483648 < 18446744073709551616 := Nat.lt_of_le_of_lt (Nat.div_le_self _ _) h
  exact Nat.xor_lt_two_pow (n := 64) h h1
theorem mixN_lt (x j : Nat) : mixN x j < 18446744073709551616 := mix3_lt (mix2_lt _)
def ckV (x : BitVec 64) : BitVec 32 := BitVec.ofNat 32 (mixN x.toNat 3)
/-- An item's j-th place among n cells. -/
def plc (n : Nat) (x : BitVec 64) (j : Nat) : Nat := j * (n / 3) + mixN x.toNat j % (n / 3)
theorem plc_lo (n : Nat) (x : BitVec 64) (j : Nat) : j * (n / 3) ≤ plc n x j := Nat.le_add_right _ _
theorem plc_hi {n : Nat} (x : BitVec 64) (j : Nat) (h : 3 ≤ n) : plc n x j < (j + 1) * (n / 3) := by
  have := Nat.mod_lt (mixN x.toNat j) (show 0 < n / 3 by omega)
  unfold plc
  rw [Nat.add_mul]
  omega
theorem plc_lt {n : Nat} (x : BitVec 64) (j : Nat) (h : 3 ≤ n) (hj : j < 3) : plc n x j < n := by
  have h1 := plc_hi x j h
  have h2 : (j + 1) * (n / 3) ≤ 3 * (n / 3) := Nat.mul_le_mul_right _ (by omega)
  have h3 : 3 * (n / 3) ≤ n := Nat.mul_div_le n 3
  omega
theorem plc_ne {n : Nat} (x : BitVec 64) {j k : Nat} (h : 3 ≤ n) (hjk : j < k) : plc n x j < plc n x k := by
  have h1 := plc_hi x j h
  have h2 : (j + 1) * (n / 3) ≤ k * (n / 3) := Nat.mul_le_mul_right _ (by omega)
  have h3 := plc_lo n x k
  omega

/-- The item as a cell, so many times. -/
def itC (x : BitVec 64) (b : BitVec 16) : Cel := ⟨b, x, ckV x⟩
/-- Is i among the first m places? -/
def isP (n m : Nat) (x : BitVec 64) (i : Nat) : Bool := (List.range m).any fun j => i == plc n x j
theorem isP_iff {n m : Nat} {x : BitVec 64} {i : Nat} : isP n m x i = true ↔ ∃ j, j < m ∧ i = plc n x j := by
  simp [isP, List.any_eq_true]
def layM (m : Nat) (x : BitVec 64) (b : BitVec 16) (L : List Cel) : List Cel := L.mapIdx fun i c => if isP L.length m x i then c.add (itC x b) else c
def layC (x : BitVec 64) (b : BitVec 16) (L : List Cel) : List Cel := layM 3 x b L
@[simp] theorem layM_length (m : Nat) (x : BitVec 64) (b : BitVec 16) (L : List Cel) : (layM m x b L).length = L.length := by simp [layM]
@[simp] theorem layC_length (x : BitVec 64) (b : BitVec 16) (L : List Cel) : (layC x b L).length = L.length := layM_length ..
theorem layM_get (m : Nat) (x : BitVec 64) (b : BitVec 16) (L : List Cel) (i : Nat) (hi : i < L.length) : (layM m x b L)[i]'(by simpa using hi) = if isP L.length m x i then L[i].add (itC x b) else L[i] := by
  simp [layM]
theorem layM_zero (x : BitVec 64) (b : BitVec 16) (L : List Cel) : layM 0 x b L = L := by
  apply List.ext_getElem (by simp)
  intro i h1 h2
  rw [layM_get 0 x b L i h2]
  simp [isP]
theorem layM_step (m : Nat) (x : BitVec 64) (b : BitVec 16) (L : List Cel) (h : 3 ≤ L.length) (hm : m < 3) :
    (layM m x b L).set (plc L.length x m) ((L[plc L.length x m]'(plc_lt x m h hm)).add (itC x b)) = layM (m + 1) x b L := by
  apply List.ext_getElem (by simp)
  intro i h1 h2
  have hi : i < L.length := by simpa using h2
  rw [layM_get (m + 1) x b L i hi, List.getElem_set]
  by_cases he : plc L.length x m = i
  · subst he
    rw [if_pos rfl, if_pos (isP_iff.2 ⟨m, by omega, rfl⟩)]
  · rw [if_neg he, layM_get m x b L i hi]
    have : isP L.length (m + 1) x i = isP L.length m x i := by
      rw [Bool.eq_iff_iff, isP_iff, isP_iff]
      constructor
      · rintro ⟨j, hj, rfl⟩
        refine ⟨j, ?_, rfl⟩
        rcases Nat.lt_succ_iff_lt_or_eq.1 hj with h | rfl
        · exact h
        · exact absurd rfl he
      · rintro ⟨j, hj, rfl⟩
        exact ⟨j, by omega, rfl⟩
    rw [this]
theorem layM_here (m : Nat) (x : BitVec 64) (b : BitVec 16) (L : List Cel) (h : 3 ≤ L.length) (hm : m < 3) : (layM m x b L)[plc L.length x m]'(by simpa using plc_lt x m h hm) = L[plc L.length x m]'(plc_lt x m h hm) := by
  rw [layM_get m x b L _ (plc_lt x m h hm), if_neg]
  rw [isP_iff]
  rintro ⟨j, hj, he⟩
  have := plc_ne x h hj (j := j) (k := m)
  omega

/-- Cells, added one by one. -/
def addL (L M : List Cel) : List Cel := List.zipWith Cel.add L M
def zL (n : Nat) : List Cel := List.replicate n zc
def oneL (n : Nat) (x : BitVec 64) (b : BitVec 16) : List Cel := (List.range n).map fun i => if isP n 3 x i then itC x b else zc
theorem addL_length (L M : List Cel) (h : L.length = M.length) : (addL L M).length = L.length := by simp [addL, h]
theorem addL_comm (L M : List Cel) : addL L M = addL M L := by
  apply List.ext_getElem (by simp [addL, Nat.min_comm])
  intro i h1 h2
  simp only [addL, List.getElem_zipWith]
  exact Cel.add_comm _ _
theorem addL_assoc (L M R : List Cel) : addL (addL L M) R = addL L (addL M R) := by
  apply List.ext_getElem (by simp [addL, Nat.min_assoc])
  intro i h1 h2
  simp [addL, Cel.add_assoc]
theorem addL_zero (L : List Cel) : addL L (zL L.length) = L := by
  apply List.ext_getElem (by simp [addL, zL])
  intro i h1 h2
  simp [addL, zL, Cel.add_zero]
def negL (L : List Cel) : List Cel := L.map Cel.neg
theorem addL_neg (L : List Cel) : addL L (negL L) = zL L.length := by
  apply List.ext_getElem (by simp [addL, zL, negL])
  intro i h1 h2
  simp [addL, zL, negL, Cel.add_neg]
theorem oneL_length (n : Nat) (x : BitVec 64) (b : BitVec 16) : (oneL n x b).length = n := by simp [oneL]
theorem layC_add (x : BitVec 64) (b : BitVec 16) (L : List Cel) : layC x b L = addL L (oneL L.length x b) := by
  apply List.ext_getElem (by simp [addL, oneL])
  intro i h1 h2
  have hi : i < L.length := by simpa using h1
  have e := layM_get 3 x b L i hi
  refine Eq.trans e ?_
  simp only [addL, oneL, List.getElem_zipWith, List.getElem_map, List.getElem_range]
  split <;> simp [Cel.add_zero]
theorem oneL_undo (n : Nat) (x : BitVec 64) (b : BitVec 16) : addL (oneL n x b) (oneL n x (-b)) = zL n := by
  apply List.ext_getElem (by simp [addL, oneL, zL])
  intro i h1 h2
  simp only [addL, oneL, List.getElem_zipWith, List.getElem_map, List.getElem_range, zL, List.getElem_replicate]
  split
  · simpa [itC, Cel.neg] using Cel.add_neg (itC x b)
  · exact Cel.add_zero _
theorem layC_undo (x : BitVec 64) (b : BitVec 16) (L : List Cel) : layC x (-b) (layC x b L) = L := by
  rw [layC_add, layC_add, addL_length _ _ (by simp [oneL]), addL_assoc, oneL_undo, addL_zero]
theorem layC_comm (x y : BitVec 64) (b c : BitVec 16) (L : List Cel) : layC x b (layC y c L) = layC y c (layC x b L) := by
  rw [layC_add x b, layC_add y c, layC_add y c (layC x b L), layC_add x b L, addL_length _ _ (by simp [oneL]), addL_length _ _ (by simp [oneL]), addL_assoc, addL_comm (oneL _ _ _), addL_assoc]
end Go.Proofs.Ytpklkjekkbpeoaa
