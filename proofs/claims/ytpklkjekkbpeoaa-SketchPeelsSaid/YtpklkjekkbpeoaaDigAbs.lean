/- DERIVED. A Hash in memory; what it holds of the bytes that were written. -/
import Derived.Test.YtpklkjekkbpeoaaDigBuf
import Derived.Test.YtpklkjekkbpeoaaDigMem
import Derived.Test.YtpklkjekkbpeoaaDigSha
import Derived.BigRegion
namespace Go.Proofs.Ytpklkjekkbpeoaa
open Go.RowKit
set_option linter.unusedVariables false
set_option linter.unusedSimpArgs false

def hF (st : Nat → W32) (rest : Nat → UInt8) (held n : Nat) : Nat → Value := fun i => if i < 8 then .int .u32 (wv (st i)) else if i < 72 then .int .u8 (bv (rest (i - 8))) else if i = 72 then .int .i64 held else .int .u64 n
def hashC (st : Nat → W32) (rest : Nat → UInt8) (held n : Nat) : Array Value := ((List.range 74).map (hF st rest held n)).toArray
section
variable (st st' : Nat → W32) (rest rest' : Nat → UInt8) (held held' n n' : Nat)
theorem hashC_size : (hashC st rest held n).size = 74 := by simp [hashC]
theorem hashC_get {i : Nat} (h : i < 74) : (hashC st rest held n)[i]? = some (hF st rest held n i) := by simp [hashC, h]
theorem hashC_st {i : Nat} (h : i < 8) : (hashC st rest held n)[i]? = some (.int .u32 (wv (st i))) := by rw [hashC_get _ _ _ _ (by omega), hF, if_pos h]
theorem hashC_rest {i : Nat} (h : i < 64) : (hashC st rest held n)[8 + i]? = some (.int .u8 (bv (rest i))) := by
  rw [hashC_get _ _ _ _ (by omega), hF, if_neg (by omega), if_pos (by omega), show 8 + i - 8 = i by omega]
theorem hashC_held : (hashC st rest held n)[72]? = some (.int .i64 held) := by rw [hashC_get _ _ _ _ (by omega)]; rfl
theorem hashC_n : (hashC st rest held n)[73]? = some (.int .u64 n) := by rw [hashC_get _ _ _ _ (by omega)]; rfl
theorem hashC_congr (h : ∀ i, i < 74 → hF st rest held n i = hF st' rest' held' n' i) : hashC st rest held n = hashC st' rest' held' n' := by
  unfold hashC
  congr 1
  exact List.map_congr_left fun i hi => h i (List.mem_range.1 hi)
theorem hashC_one : (hashC st rest held n).all (·.oneCell') = true := by
  rw [Array.all_eq_true_iff_forall_mem]
  intro v hv
  simp only [hashC, List.mem_toArray, List.mem_map, List.mem_range] at hv
  obtain ⟨i, _, rfl⟩ := hv
  unfold hF
  split
  · rfl
  · split
    · rfl
    · split <;> rfl
theorem hashC_setN : (hashC st rest held n).setIfInBounds 73 (.int .u64 n') = hashC st rest held n' := by
  apply Array.ext_getElem?
  intro j
  rw [Array.getElem?_setIfInBounds]
  by_cases hj : j < 74
  · rw [hashC_get _ _ _ _ hj, hashC_get _ _ _ _ hj]
    by_cases h : 73 = j
    · subst h; simp [hashC_size, hF]
    · rw [if_neg h]
      unfold hF
      rcases Nat.lt_or_ge j 72 with h2 | h2
      · by_cases h3 : j < 8
        · simp [h3]
        · simp [h2, h3]
      · obtain rfl : j = 72 := by omega
        rfl
  · rw [if_neg (by omega), Array.getElem?_eq_none (by rw [hashC_size]; omega), Array.getElem?_eq_none (by rw [hashC_size]; omega)]
theorem hashC_setHeld : (hashC st rest held n).setIfInBounds 72 (.int .i64 held') = hashC st rest held' n := by
  apply Array.ext_getElem?
  intro j
  rw [Array.getElem?_setIfInBounds]
  by_cases hj : j < 74
  · rw [hashC_get _ _ _ _ hj, hashC_get _ _ _ _ hj]
    by_cases h : 72 = j
    · subst h; simp [hashC_size, hF]
    · rw [if_neg h]
      unfold hF
      rcases Nat.lt_or_ge j 72 with h2 | h2
      · by_cases h3 : j < 8
        · simp [h3]
        · simp [h2, h3]
      · obtain rfl : j = 73 := by omega
        rfl
  · rw [if_neg (by omega), Array.getElem?_eq_none (by rw [hashC_size]; omega), Array.getElem?_eq_none (by rw [hashC_size]; omega)]
/-- Values laid over a stretch of the cells. -/
theorem hashC_lay (o : Nat) (vs : List Value) (hfit : o + vs.length ≤ 74) (h : ∀ i, i < 74 → hF st' rest' held' n' i = if o ≤ i ∧ i < o + vs.length then vs.getD (i - o) undef else hF st rest held n i) :
    ((hashC st rest held n).toList.take o ++ vs ++ (hashC st rest held n).toList.drop (o + vs.length)).toArray = hashC st' rest' held' n' := by
  have hl : (hashC st rest held n).toList.length = 74 := by rw [Array.length_toList, hashC_size]
  apply Array.ext_getElem?
  intro j
  simp only [List.getElem?_toArray]
  by_cases hj : j < 74
  · rw [hashC_get _ _ _ _ hj, h j hj]
    by_cases h1 : j < o
    · rw [List.append_assoc, List.getElem?_append_left (by rw [List.length_take, hl]; omega), List.getElem?_take, if_pos h1, Array.getElem?_toList, hashC_get _ _ _ _ hj, if_neg (by omega)]
    · by_cases h2 : j < o + vs.length
      · rw [List.append_assoc, List.getElem?_append_right (by rw [List.length_take, hl]; omega), List.length_take, hl, Nat.min_eq_left (by omega), List.getElem?_append_left (by omega), if_pos ⟨by omega, h2⟩, List.getD_eq_getElem?_getD, List.getElem?_eq_getElem (by omega)]
        rfl
      · rw [List.getElem?_append_right (by rw [List.length_append, List.length_take, hl]; omega), List.length_append, List.length_take, hl, Nat.min_eq_left (by omega), List.getElem?_drop, Array.getElem?_toList, show o + vs.length + (j - (o + vs.length)) = j by omega, hashC_get _ _ _ _ hj, if_neg (by omega)]
  · rw [Array.getElem?_eq_none (by rw [hashC_size]; omega), List.getElem?_eq_none (by simp only [List.length_append, List.length_take, List.length_drop, hl]; omega)]
theorem hashC_state : ((hashC st rest held n).toList.take 0 ++ (arrW 8 st').toList ++ (hashC st rest held n).toList.drop (0 + (arrW 8 st').toList.length)).toArray = hashC st' rest held n := by
  have hl : (arrW 8 st').toList.length = 8 := by rw [Array.length_toList, arrW_size]
  refine hashC_lay st st' rest rest held held n n 0 _ (by omega) fun i hi => ?_
  rw [hl]
  by_cases h : i < 8
  · rw [if_pos ⟨by omega, by omega⟩, hF, if_pos h, List.getD_eq_getElem?_getD, Array.getElem?_toList, Nat.sub_zero, arrW_get _ _ h]
    rfl
  · rw [if_neg (by omega), hF, hF, if_neg h, if_neg h]
theorem bytesV_getD (ps : List UInt8) {j : Nat} (h : j < ps.length) : (bytesV ps).getD j undef = .int .u8 (bv (ps.getD j 0)) := by
  rw [List.getD_eq_getElem?_getD, List.getD_eq_getElem?_getD, bytesV, List.getElem?_map, List.getElem?_eq_getElem h]
  rfl
/-- k bytes laid into the rest. -/
theorem hashC_copy (ps : List UInt8) (h : held + ps.length ≤ 64) : ((hashC st rest held n).toList.take (8 + held) ++ bytesV ps ++ (hashC st rest held n).toList.drop (8 + held + (bytesV ps).length)).toArray =
    hashC st (fun j => if held ≤ j ∧ j < held + ps.length then ps.getD (j - held) 0 else rest j) held n := by
  have hl := bytesV_len ps
  refine hashC_lay st st rest _ held held n n (8 + held) _ (by omega) fun i hi => ?_
  rw [hl]
  by_cases h1 : 8 + held ≤ i ∧ i < 8 + held + ps.length
  · have h2 : i - (8 + held) < ps.length := by omega
    rw [if_pos h1, hF, if_neg (by omega), if_pos (by omega), if_pos ⟨by omega, by omega⟩, bytesV_getD ps h2, show i - 8 - held = i - (8 + held) by omega]
  · rw [if_neg h1]
    unfold hF
    by_cases h3 : i < 8
    · rw [if_pos h3, if_pos h3]
    · rw [if_neg h3, if_neg h3]
      by_cases h4 : i < 72
      · rw [if_pos h4, if_pos h4]
        show Value.int .u8 (bv (if held ≤ i - 8 ∧ i - 8 < held + ps.length then ps.getD (i - 8 - held) 0 else rest (i - 8))) = _
        rw [if_neg (by omega)]
      · rw [if_neg h4, if_neg h4]
end
/-- What a Hash holds when the bytes l were written. -/
def Abs (st : Nat → W32) (rest : Nat → UInt8) (held : Nat) (l : List UInt8) : Prop := st = stAt l (l.length / 64) ∧ held = l.length % 64 ∧ ∀ j, j < held → rest j = l.getD (64 * (l.length / 64) + j) 0
theorem Abs.nil (rest : Nat → UInt8) : Abs h0 rest 0 [] := ⟨rfl, rfl, fun _ h => absurd h (Nat.not_lt_zero _)⟩
theorem stAt_app (l ps : List UInt8) (b : Nat) (h : 64 * b ≤ l.length) : stAt (l ++ ps) b = stAt l b :=
  stAt_congr b fun i hi => by rw [List.getD_eq_getElem?_getD, List.getD_eq_getElem?_getD, List.getElem?_append_left (by omega)]
/-- A whole block. -/
theorem Abs.block {st : Nat → W32} {rest : Nat → UInt8} {l : List UInt8} (h : Abs st rest 0 l) (m : Nat → UInt8) : Abs (madeF st m) rest 0 (l ++ (List.range 64).map m) := by
  obtain ⟨h1, h2, _⟩ := h
  have hl : (l ++ (List.range 64).map m).length = l.length + 64 := by simp
  refine ⟨?_, by rw [hl]; omega, fun _ h => absurd h (Nat.not_lt_zero _)⟩
  rw [hl, show (l.length + 64) / 64 = l.length / 64 + 1 by omega, stAt, stAt_app _ _ _ (by omega), ← h1]
  refine madeF_congr _ fun j hj => ?_
  rw [blockAt, List.getD_eq_getElem?_getD, List.getElem?_append_right (by omega), List.getElem?_map, show 64 * (l.length / 64) + j - l.length = j by omega, List.getElem?_range hj]
  rfl
/-- Bytes that don't fill the block. -/
theorem Abs.part {st : Nat → W32} {rest : Nat → UInt8} {held : Nat} {l : List UInt8} (h : Abs st rest held l) (ps : List UInt8) (hk : held + ps.length < 64) :
    Abs st (fun j => if held ≤ j ∧ j < held + ps.length then ps.getD (j - held) 0 else rest j) (held + ps.length) (l ++ ps) := by
  obtain ⟨h1, h2, h3⟩ := h
  have hd : (l ++ ps).length / 64 = l.length / 64 := by rw [List.length_append]; omega
  refine ⟨by rw [hd, stAt_app _ _ _ (by omega)]; exact h1, by rw [List.length_append]; omega, fun j hj => ?_⟩
  rw [hd]
  show (if held ≤ j ∧ j < held + ps.length then ps.getD (j - held) 0 else rest j) = _
  by_cases hj2 : held ≤ j
  · rw [if_pos ⟨hj2, hj⟩, List.getD_eq_getElem?_getD, List.getD_eq_getElem?_getD, List.getElem?_append_right (by omega), show 64 * (l.length / 64) + j - l.length = j - held by omega]
  · rw [if_neg (by omega), h3 j (by omega), List.getD_eq_getElem?_getD, List.getD_eq_getElem?_getD, List.getElem?_append_left (by omega)]
/-- Bytes that fill it. -/
theorem Abs.full {st : Nat → W32} {rest : Nat → UInt8} {held : Nat} {l : List UInt8} (h : Abs st rest held l) (ps : List UInt8) (hk : held + ps.length = 64) (rest' : Nat → UInt8) :
    Abs (madeF st (fun j => if held ≤ j ∧ j < held + ps.length then ps.getD (j - held) 0 else rest j)) rest' 0 (l ++ ps) := by
  obtain ⟨h1, h2, h3⟩ := h
  have hd : (l ++ ps).length / 64 = l.length / 64 + 1 := by rw [List.length_append]; omega
  refine ⟨?_, by rw [List.length_append]; omega, fun _ h => absurd h (Nat.not_lt_zero _)⟩
  rw [hd, stAt, stAt_app _ _ _ (by omega), ← h1]
  refine (madeF_congr _ fun j hj => ?_).symm
  rw [blockAt]
  show _ = (if held ≤ j ∧ j < held + ps.length then ps.getD (j - held) 0 else rest j)
  symm
  by_cases hj2 : held ≤ j
  · rw [if_pos ⟨hj2, by omega⟩, List.getD_eq_getElem?_getD, List.getD_eq_getElem?_getD, List.getElem?_append_right (by omega), show 64 * (l.length / 64) + j - l.length = j - held by omega]
  · rw [if_neg (by omega), h3 j (by omega), List.getD_eq_getElem?_getD, List.getD_eq_getElem?_getD, List.getElem?_append_left (by omega)]
end Go.Proofs.Ytpklkjekkbpeoaa
