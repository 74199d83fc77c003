/- DERIVED. What a key may be; which entries are a list (both texts of chapters 13 and 14). A key's segment, and what its keys begin with: both texts. Two keys' segments, reckoned. -/
import Derived.Test.YtljfigikkajlnaaVm4
import Derived.Test.YtljfigikkajlnaaVm5
namespace Go.Proofs.Ytljfigikkajlnaa
open Go.RowKit
set_option linter.unusedVariables false
set_option linter.unusedSimpArgs false
/-- A key of 1 to 32 bytes. -/
def keyB (s : ByteArray) : Bool := decide (1 ≤ s.size) && decide (s.size ≤ 32)
theorem keyB_iff (s : ByteArray) : keyB s = true ↔ 1 ≤ s.size ∧ s.size ≤ 32 := by simp [keyB]
theorem toList_eq (s : ByteArray) : s.toList = s.data.toList := ByteArray.toList_eq s
theorem nonempty_of_size {s : ByteArray} (h : 1 ≤ s.size) : s.data.toList.isEmpty = false := by
 obtain ⟨⟨l⟩⟩ := s
 cases l with
 | nil => exact absurd h (by decide)
 | cons x l => rfl
theorem empty_of_size {s : ByteArray} (h : s.size = 0) : s.data.toList.isEmpty = true := by
 obtain ⟨⟨l⟩⟩ := s
 cases l with
 | nil => rfl
 | cons x l => exact absurd h (by simp [ByteArray.size])
theorem segKey_yes (s : ByteArray) (h : keyB s = true) (w : World) : Calls Try.prog 27 #[.string s] w fun e w' => e = .returned (.int .i64 0) ∧ w = w' := by
 have hk := (keyB_iff _).1 h
 have b1 : s.toList.isEmpty = false := by rw [toList_eq]; exact nonempty_of_size hk.1
 have b2 : decide (32 < (s.size : Int)) = false := by simp; omega
 clear h hk
 go_enter Try.func27, Try.ntmps27
 go_wp2
 go_ret
 exact ⟨rfl, rfl⟩
theorem segKey_no (s : ByteArray) (h : keyB s = false) (w : World) : Calls Try.prog 27 #[.string s] w fun e w' => e = .returned (.int .i64 130) ∧ w = w' := by
 by_cases h0 : s.size = 0
 · have b1 : s.toList.isEmpty = true := by rw [toList_eq]; exact empty_of_size h0
   clear h h0
   go_enter Try.func27, Try.ntmps27
   go_wp2
   all_goals (go_ret; exact ⟨rfl, rfl⟩)
 · have b1 : s.toList.isEmpty = false := by rw [toList_eq]; exact nonempty_of_size (by omega)
   have b2 : decide (32 < (s.size : Int)) = true := by
    simp [keyB] at h; simp; omega
   clear h h0
   go_enter Try.func27, Try.ntmps27
   go_wp2
   all_goals (go_ret; exact ⟨rfl, rfl⟩)
end Go.Proofs.Ytljfigikkajlnaa
namespace Go.Proofs.Ytljfigikkajlnaa
open Go.RowKit
set_option linter.unusedVariables false
set_option linter.unusedSimpArgs false
attribute [local irreducible] arrW arrB wpList Code.wp
/-- A key's segment: twelve bits of its text's digest. -/
def placeL (key : ByteArray) : List UInt8 := (⟨#[75]⟩ ++ key : ByteArray).data.toList
def placeI (key : ByteArray) : Int := bv (shaB (placeL key) 0) * 16 + bv (shaB (placeL key) 1) / 16
def ofI (key : ByteArray) : Int := if keyB key then placeI key else -1
theorem ofI_pos {key : ByteArray} (h : keyB key = true) : ofI key = placeI key := by rw [ofI, if_pos h]
theorem bv_lt (x : UInt8) : 0 ≤ bv x ∧ bv x < 256 := by
 have := x.toNat_lt
 unfold bv
 omega
theorem w64_small (n : Int) (h : 0 ≤ n) (h1 : n < 65536) : wrap64 n = n := by unfold wrap64; omega
theorem place_bits (x y : UInt8) : bits .or .i64 (wrap64 (wrap64 (bv x) * 16)) (wrap64 (bv y) / 16) = bv x * 16 + bv y / 16 := by
 have hx := bv_lt x
 have hy := bv_lt y
 rw [w64_small (bv x) hx.1 (by omega), w64_small (bv x * 16) (by omega) (by omega), w64_small (bv y) hy.1 (by omega)]
 exact bits_join .i64 62 (by decide) (fun n h h1 => IntWalk.i64_in _ (by omega)) 4 _ _ (by omega) (by omega) (by omega) (by omega) (by omega) (by omega)
set_option maxRecDepth 100000 in
set_option maxHeartbeats 3200000 in
theorem place_yes (s : ByteArray) (h : keyB s = true) (w : World) : Calls Try.prog 26 #[.string s] w fun e w' => e = .returned (.tuple #[.int .i64 (placeI s), .int .i64 0]) ∧ Below w.heap.size w w' := by
 have hk := (keyB_iff _).1 h
 have ks := hk.2
 have k1 := hk.1
 have hcat : ∀ W, (Op.stringOp .add ⟨#[75]⟩ s).run Try.prog W = .ok (.string (⟨#[75]⟩ ++ s)) W := fun W => run_string_add_sum W _ _ (by show 1 + s.size ≤ _; omega)
 have hcs : ((⟨#[75]⟩ : ByteArray) ++ s).size ≤ 70368744177664 := by rw [ByteArray.size_append]; show 1 + s.size ≤ _; omega
 have HCS := Lib.hid hcs
 have HSZ := Lib.hid ks
 clear hk ks k1 hcs
 go_enter Try.func26, Try.ntmps26
 go_wp2_with (first
  | (go_at_call 27; refine (segKey_yes s h _).mono ?_; rintro e w1 ⟨rfl, rfl⟩)
  | (go_at_call 60; refine (of_any _ HCS.out w).mono ?_; rintro e W1 ⟨rfl, L_⟩; have L1 := Lib.hid L_; clear L_)
  | (refine alloc_arr (w := W1) rfl 91 rfl _ _ z32 ?_; intro W2 B_ L_ S_; have B2 := Lib.hid B_; have L2 := Lib.hid L_; have S2 := Lib.hid S_; clear B_ L_ S_)
  | (refine store_arr (w := W2) rfl 91 _ _ rfl W1.heap.size (arrB 32 (shaB (placeL s))) rfl rfl _ _ B2.out (by rw [arrB_size]; exact s32) (by rw [arrB_size, arrB_size]) (arrB_one _ _) ?_; intro W3 B_ G_ S_; have B3 := Lib.hid B_; have G3 := Lib.hid G_; clear B_ G_ S_; have c0 := (B3.out.cell 0).trans (arrB_get 32 (shaB (placeL s)) (by omega)); have c1 := (B3.out.cell 1).trans (arrB_get 32 (shaB (placeL s)) (by omega))))
 rw [place_bits]
 go_ret2
 exact ⟨rfl, bl_of_grown (bl_then L1.out L2.out) G3.out (zero_lt_of (by have := L1.out.size; omega) rfl)⟩
set_option maxRecDepth 100000 in
theorem place_no (s : ByteArray) (h : keyB s = false) (w : World) : Calls Try.prog 26 #[.string s] w fun e w' => e = .returned (.tuple #[.int .i64 0, .int .i64 130]) ∧ w = w' := by
 go_enter Try.func26, Try.ntmps26
 go_wp2_with (go_at_call 27; refine (segKey_no s h _).mono ?_; rintro e w1 ⟨rfl, rfl⟩)
 go_ret2
 exact ⟨rfl, rfl⟩
end Go.Proofs.Ytljfigikkajlnaa
namespace Go.Proofs.Ytljfigikkajlnaa
open Go.RowKit
set_option linter.unusedVariables false
set_option linter.unusedSimpArgs false
/-- The words of a block, the last first. -/
def schL (m : Nat → UInt8) : Nat → List W32
 | 0 => ((List.range 16).map (word m)).reverse
 | k + 1 => ((schL m k).getD 15 0 + sigA ((schL m k).getD 14 0) + (schL m k).getD 6 0 + sigB ((schL m k).getD 1 0)) :: schL m k
theorem schL_length (m : Nat → UInt8) (k : Nat) : (schL m k).length = 16 + k := by
 induction k with
 | zero => simp [schL]
 | succ k ih => simp [schL, ih]; omega
theorem schL_get (m : Nat → UInt8) (k : Nat) : ∀ j, j < 16 + k → (schL m k).getD j 0 = sched m (15 + k - j) := by
 induction k with
 | zero =>
  intro j hj
  rw [sched_lo m (by omega), schL, List.getD_eq_getElem?_getD, List.getElem?_reverse (by simp; omega)]
  simp [show 15 - j < 16 by omega]
 | succ k ih =>
  intro j hj
  cases j with
  | zero =>
   rw [sched_hi m (by omega), schL, List.getD_cons_zero, ih 15 (by omega), ih 14 (by omega), ih 6 (by omega), ih 1 (by omega)]
   rw [show 15 + (k + 1) - 0 - 16 = 15 + k - 15 by omega, show 15 + (k + 1) - 0 - 15 = 15 + k - 14 by omega, show 15 + (k + 1) - 0 - 7 = 15 + k - 6 + 2 - 2 by omega, show 15 + (k + 1) - 0 - 2 = 15 + k - 1 by omega]
   rfl
  | succ j =>
   rw [schL, List.getD_cons_succ, ih j (by omega), show 15 + (k + 1) - (j + 1) = 15 + k - j by omega]
/-- One block's first word, by lists. -/
def rndL (l : List W32) (k w : W32) : List W32 := match l with
 | [a, b, c, d, e, f, g, h] => let t := h + (rr e 6 ^^^ rr e 11 ^^^ rr e 25) + (e &&& f ^^^ ~~~e &&& g) + k + w
  [t + ((rr a 2 ^^^ rr a 13 ^^^ rr a 22) + (a &&& b ^^^ a &&& c ^^^ b &&& c)), a, b, c, d + t, e, f, g]
 | _ => []
def rdsL (l : List W32) : List W32 → List W32 → List W32
 | w :: ws, k :: ks => rdsL (rndL l k w) ws ks
 | _, _ => l
theorem sched_of (m : Nat → UInt8) (L : List W32) (h : (schL m 48).reverse = L) : ∀ i, i < 64 → sched m i = L.getD i 0 := by
 intro i hi
 have := schL_get m 48 (63 - i) (by omega)
 rw [show 15 + 48 - (63 - i) = i by omega] at this
 rw [← this, ← h, List.getD_eq_getElem?_getD, List.getD_eq_getElem?_getD, List.getElem?_reverse (by rw [schL_length]; omega), schL_length, show 16 + 48 - 1 - i = 63 - i by omega]
def stL (f : Nat → W32) : List W32 := [f 0, f 1, f 2, f 3, f 4, f 5, f 6, f 7]
theorem rnd_list (f : Nat → W32) (k w : W32) : stL (rnd f k w) = rndL (stL f) k w := rfl
theorem rounds_list (f : Nat → W32) (L : List W32) : ∀ n, n ≤ 64 → L.length = 64 → stL (rounds f (fun i => L.getD i 0) n) = rdsL (stL f) (L.take n) ((List.range n).map kc) := by
 have key : ∀ (ws ks : List W32) (l : List W32) (w k : W32), ws.length = ks.length → rdsL l (ws ++ [w]) (ks ++ [k]) = rndL (rdsL l ws ks) k w := by
  intro ws
  induction ws with
  | nil => intro ks l w k h; cases ks with
   | nil => rfl
   | cons => cases h
  | cons x ws ih => intro ks l w k h; cases ks with
   | nil => cases h
   | cons y ks => exact ih ks _ w k (by simpa using h)
 intro n
 induction n with
 | zero => intro _ _; rfl
 | succ n ih =>
  intro hn hl
  have hc : n < L.length := by omega
  rw [rounds, rnd_list, ih (by omega) hl, List.range_succ, List.map_append, List.take_add_one, List.getElem?_eq_getElem hc]
  rw [show [n].map kc = [kc n] from rfl, Option.toList_some, key _ _ _ _ _ (by simp; omega)]
  congr 1
  simp [hc]
/-- The first word of one block's digest. -/
theorem one_block (l : List UInt8) (L : List W32) (x : W32) (hlen : (fullL l).length = 64) (hL : (schL (blockAt (fullL l) 0) 48).reverse = L) (hl : L.length = 64)
 (hx : (rdsL (stL h0) L ((List.range 64).map kc)).getD 0 0 + h0 0 = x) : ∀ i, i < 4 → shaB l i = outB (fun _ => x) i := by
 intro i hi
 have hr := rounds_list h0 L 64 (Nat.le_refl _) hl
 rw [List.take_of_length_le (by omega)] at hr
 rw [← hr] at hx
 rw [shaB, hlen, show 64 / 64 = 0 + 1 from rfl, stAt, outB, outB, show i / 4 = 0 by omega, madeF, stAt, rounds_congr 64 (sched_of _ L hL)]
 exact congrArg (fun y : W32 => wByte (y >>> (24 - 8 * (i % 4)))) hx
def w_a : List W32 := [0x4b618000, 0x00000000, 0x00000000, 0x00000000, 0x00000000, 0x00000000, 0x00000000, 0x00000000, 0x00000000, 0x00000000, 0x00000000, 0x00000000, 0x00000000, 0x00000000, 0x00000000, 0x00000010, 0x4b618000, 0x000a0000, 0xf012f4bc, 0x40000284, 0x24f5e2b6, 0x0102a800, 0x4d04ebac, 0x4c61c00b, 0xe8baee18, 0xc82acc88, 0x6af54a75, 0x64dd5a59, 0x0d714d76, 0x5383954f, 0xfb7c5b52, 0x0ad07354, 0x3a8b9e51, 0x7d8ec21d, 0x11fd785d, 0x173ea16e, 0x35bd1db4, 0xecef9205, 0xf44d7ac7, 0x59a6e09b, 0x34070628, 0x3b870cab, 0xced451ed, 0xc151dbe5, 0x0ede6c82, 0xcadcea0d, 0x0690d954, 0x69fd8edf, 0x73616d4c, 0xa91c4c30, 0xe4f4f069, 0xff82e990, 0xd96051f8, 0xed16b4a2, 0x06e180e9, 0xf169a033, 0x5fb88f91, 0xdadc2b30, 0xc9d68e24, 0xca61e21a, 0xcb26ffb8, 0x3dc54a36, 0x686fbf88, 0xa3e2ba23]
set_option maxRecDepth 100000 in
theorem sch_a : (schL (blockAt (fullL [75, 97]) 0) 48).reverse = w_a := by decide +kernel
set_option maxRecDepth 100000 in
theorem rds_a : (rdsL (stL h0) w_a ((List.range 64).map kc)).getD 0 0 + h0 0 = 0x7d57fd69 := by decide +kernel
theorem of_a : ofI ⟨#[97]⟩ = 2005 := by
 have h := one_block [75, 97] w_a 0x7d57fd69 (by decide +kernel) sch_a (by decide +kernel) rds_a
 rw [ofI_pos (by decide +kernel), placeI, show placeL ⟨#[97]⟩ = [75, 97] from by decide +kernel, h 0 (by omega), h 1 (by omega)]
 decide +kernel
end Go.Proofs.Ytljfigikkajlnaa
