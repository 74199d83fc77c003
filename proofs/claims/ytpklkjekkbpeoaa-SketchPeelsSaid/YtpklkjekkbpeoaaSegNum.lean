/- DERIVED. Two keys' segments, reckoned. -/
import Derived.Test.YtpklkjekkbpeoaaSegPlace
namespace Go.Proofs.Ytpklkjekkbpeoaa
open Go.RowKit
set_option linter.unusedVariables false
set_option linter.unusedSimpArgs false

/-- The words of a block, the last first. -/
def schL (m : Nat → UInt8) : Nat → List W32
  | 0 => ((List.range 16).map (word m)).reverse
  | k + 1 => ((schL m k).getD 15 0 + sigA ((schL m k).getD 14 0) + (schL m k).getD 6 0 + sigB ((schL m k).getD 1 0)) :: schL m k
theorem schL_length (m : Nat → UInt8) (k : Nat) : (schL m k).length = 16 + k := by
  induction k with
  | zero => simp [schL]
  | succ k ih => simp [schL, ih]; omega
theorem schL_get (m : Nat → UInt8) (k : Nat) : ∀ j, j < 16 + k → (schL m k).getD j 0 = sched m (15 + k - j) := by
  induction k with
  | zero =>
    intro j hj
    rw [sched_lo m (by omega), schL, List.getD_eq_getElem?_getD, List.getElem?_reverse (by simp; omega)]
    simp [show 15 - j < 16 by omega]
  | succ k ih =>
    intro j hj
    cases j with
    | zero =>
      rw [sched_hi m (by omega), schL, List.getD_cons_zero, ih 15 (by omega), ih 14 (by omega), ih 6 (by omega), ih 1 (by omega)]
      rw [show 15 + (k + 1) - 0 - 16 = 15 + k - 15 by omega, show 15 + (k + 1) - 0 - 15 = 15 + k - 14 by omega, show 15 + (k + 1) - 0 - 7 = 15 + k - 6 + 2 - 2 by omega, show 15 + (k + 1) - 0 - 2 = 15 + k - 1 by omega]
      rfl
    | succ j =>
      rw [schL, List.getD_cons_succ, ih j (by omega), show 15 + (k + 1) - (j + 1) = 15 + k - j by omega]
/-- One block's first word, by lists. -/
def rndL (l : List W32) (k w : W32) : List W32 := match l with
  | [a, b, c, d, e, f, g, h] => let t := h + (rr e 6 ^^^ rr e 11 ^^^ rr e 25) + (e &&& f ^^^ ~~~e &&& g) + k + w
      [t + ((rr a 2 ^^^ rr a 13 ^^^ rr a 22) + (a &&& b ^^^ a &&& c ^^^ b &&& c)), a, b, c, d + t, e, f, g]
  | _ => []
def rdsL (l : List W32) : List W32 → List W32 → List W32
  | w :: ws, k :: ks => rdsL (rndL l k w) ws ks
  | _, _ => l
theorem sched_of (m : Nat → UInt8) (L : List W32) (h : (schL m 48).reverse = L) : ∀ i, i < 64 → sched m i = L.getD i 0 := by
  intro i hi
  have := schL_get m 48 (63 - i) (by omega)
  rw [show 15 + 48 - (63 - i) = i by omega] at this
  rw [← this, ← h, List.getD_eq_getElem?_getD, List.getD_eq_getElem?_getD, List.getElem?_reverse (by rw [schL_length]; omega), schL_length, show 16 + 48 - 1 - i = 63 - i by omega]
def stL (f : Nat → W32) : List W32 := [f 0, f 1, f 2, f 3, f 4, f 5, f 6, f 7]
theorem rnd_list (f : Nat → W32) (k w : W32) : stL (rnd f k w) = rndL (stL f) k w := rfl
theorem rounds_list (f : Nat → W32) (L : List W32) : ∀ n, n ≤ 64 → L.length = 64 → stL (rounds f (fun i => L.getD i 0) n) = rdsL (stL f) (L.take n) ((List.range n).map kc) := by
  have key : ∀ (ws ks : List W32) (l : List W32) (w k : W32), ws.length = ks.length → rdsL l (ws ++ [w]) (ks ++ [k]) = rndL (rdsL l ws ks) k w := by
    intro ws
    induction ws with
    | nil => intro ks l w k h; cases ks with
      | nil => rfl
      | cons => cases h
    | cons x ws ih => intro ks l w k h; cases ks with
      | nil => cases h
      | cons y ks => exact ih ks _ w k (by simpa using h)
  intro n
  induction n with
  | zero => intro _ _; rfl
  | succ n ih =>
    intro hn hl
    have hc : n < L.length := by omega
    rw [rounds, rnd_list, ih (by omega) hl, List.range_succ, List.map_append, List.take_add_one, List.getElem?_eq_getElem hc]
    rw [show [n].map kc = [kc n] from rfl, Option.toList_some, key _ _ _ _ _ (by simp; omega)]
    congr 1
    simp [hc]
def bytesOf (l : List UInt8) (j : Nat) : UInt8 := l.getD j 0
/-- The first word of one block's digest. -/
theorem one_block (l : List UInt8) (L : List W32) (x : W32) (hlen : (fullL l).length = 64) (hL : (schL (blockAt (fullL l) 0) 48).reverse = L) (hl : L.length = 64)
    (hx : (rdsL (stL h0) L ((List.range 64).map kc)).getD 0 0 + h0 0 = x) : ∀ i, i < 4 → shaB l i = outB (fun _ => x) i := by
  intro i hi
  have hr := rounds_list h0 L 64 (Nat.le_refl _) hl
  rw [List.take_of_length_le (by omega)] at hr
  rw [← hr] at hx
  rw [shaB, hlen, show 64 / 64 = 0 + 1 from rfl, stAt, outB, outB, show i / 4 = 0 by omega, madeF, stAt, rounds_congr 64 (sched_of _ L hL)]
  exact congrArg (fun y : W32 => wByte (y >>> (24 - 8 * (i % 4)))) hx
def w_a : List W32 := [0x4b618000, 0x00000000, 0x00000000, 0x00000000, 0x00000000, 0x00000000, 0x00000000, 0x00000000, 0x00000000, 0x00000000, 0x00000000, 0x00000000, 0x00000000, 0x00000000, 0x00000000, 0x00000010, 0x4b618000, 0x000a0000, 0xf012f4bc, 0x40000284, 0x24f5e2b6, 0x0102a800, 0x4d04ebac, 0x4c61c00b, 0xe8baee18, 0xc82acc88, 0x6af54a75, 0x64dd5a59, 0x0d714d76, 0x5383954f, 0xfb7c5b52, 0x0ad07354, 0x3a8b9e51, 0x7d8ec21d, 0x11fd785d, 0x173ea16e, 0x35bd1db4, 0xecef9205, 0xf44d7ac7, 0x59a6e09b, 0x34070628, 0x3b870cab, 0xced451ed, 0xc151dbe5, 0x0ede6c82, 0xcadcea0d, 0x0690d954, 0x69fd8edf, 0x73616d4c, 0xa91c4c30, 0xe4f4f069, 0xff82e990, 0xd96051f8, 0xed16b4a2, 0x06e180e9, 0xf169a033, 0x5fb88f91, 0xdadc2b30, 0xc9d68e24, 0xca61e21a, 0xcb26ffb8, 0x3dc54a36, 0x686fbf88, 0xa3e2ba23]
set_option maxRecDepth 100000 in
theorem sch_a : (schL (blockAt (fullL [75, 97]) 0) 48).reverse = w_a := by decide +kernel
set_option maxRecDepth 100000 in
theorem rds_a : (rdsL (stL h0) w_a ((List.range 64).map kc)).getD 0 0 + h0 0 = 0x7d57fd69 := by decide +kernel
theorem of_a : ofI ⟨#[97]⟩ = 2005 := by
  have h := one_block [75, 97] w_a 0x7d57fd69 (by decide +kernel) sch_a (by decide +kernel) rds_a
  rw [ofI_pos (by decide +kernel), placeI, show placeL ⟨#[97]⟩ = [75, 97] from by decide +kernel, h 0 (by omega), h 1 (by omega)]
  decide +kernel
def w_b : List W32 := [0x4b628000, 0x00000000, 0x00000000, 0x00000000, 0x00000000, 0x00000000, 0x00000000, 0x00000000, 0x00000000, 0x00000000, 0x00000000, 0x00000000, 0x00000000, 0x00000000, 0x00000000, 0x00000010, 0x4b628000, 0x000a0000, 0x1012f47d, 0x40000284, 0x24b52eb6, 0x0102a800, 0x3284fb97, 0x4c62c00b, 0xe2bfde2c, 0x482acb8a, 0x54eb4583, 0x615b9658, 0xcb67a239, 0xec8465fa, 0x91cfc544, 0x4b3370df, 0x2dbd48bb, 0x70990509, 0x7ed13765, 0xd1139b81, 0x789d89bf, 0x68275db5, 0xa2c52f4e, 0x71afd65c, 0x3536b692, 0xb64a4b07, 0x0d14d045, 0xc93c296f, 0x16efa15f, 0x8b3d2b4c, 0x93c94818, 0xd3195c0d, 0xcee38c1e, 0x8c60463c, 0xff2c8725, 0x278b6090, 0x87de3f61, 0x9b1322bf, 0x919d4902, 0xc52a938f, 0x5a80aae1, 0x90a813ad, 0x41c8663f, 0xb149a7e7, 0xb46dfcd2, 0x75569093, 0xf198616a, 0x8f268db6]
set_option maxRecDepth 100000 in
theorem sch_b : (schL (blockAt (fullL [75, 98]) 0) 48).reverse = w_b := by decide +kernel
set_option maxRecDepth 100000 in
theorem rds_b : (rdsL (stL h0) w_b ((List.range 64).map kc)).getD 0 0 + h0 0 = 0xa4d7dcbb := by decide +kernel
theorem of_b : ofI ⟨#[98]⟩ = 2637 := by
  have h := one_block [75, 98] w_b 0xa4d7dcbb (by decide +kernel) sch_b (by decide +kernel) rds_b
  rw [ofI_pos (by decide +kernel), placeI, show placeL ⟨#[98]⟩ = [75, 98] from by decide +kernel, h 0 (by omega), h 1 (by omega)]
  decide +kernel
end Go.Proofs.Ytpklkjekkbpeoaa
