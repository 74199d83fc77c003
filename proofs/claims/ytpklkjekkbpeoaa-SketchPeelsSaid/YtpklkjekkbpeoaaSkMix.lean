/- DERIVED. The kind of a sketch's cells; the mixing, an item's check. -/
import Derived.Test.YtpklkjekkbpeoaaSegBase
import Derived.Test.YtpklkjekkbpeoaaGRow
import Derived.Test.YtpklkjekkbpeoaaSkPl
import Derived.Laws.Bits64
import Derived.Laws.BitsAllLaws
namespace Go.Proofs.Ytpklkjekkbpeoaa
open Go.RowKit
set_option linter.unusedVariables false
set_option linter.unusedSimpArgs false

def celK : GR.Kind Cel where
  e := 81
  s := 3
  b := 24
  enc := fun c => [.int .i16 c.n.toInt, .int .u64 (c.x.toNat : Int), .int .u32 (c.h.toNat : Int)]
  len := fun _ => rfl
  one := fun x u hu => by
    simp only [List.mem_cons, List.not_mem_nil, or_false] at hu
    rcases hu with rfl | rfl | rfl <;> rfl
  hs := by decide
  hb := by decide
theorem w64 (n : Nat) : IntKind.u64.wrap (n : Int) = ((n % 18446744073709551616 : Nat) : Int) := by
  show ((n : Int) % 18446744073709551616 : Int) = _
  omega
theorem w32 (n : Nat) : IntKind.u32.wrap (n : Int) = ((n % 4294967296 : Nat) : Int) := by
  show ((n : Int) % 4294967296 : Int) = _
  omega
theorem xs64 (X s : Nat) (h : X < 18446744073709551616) : bits .xor .u64 (X : Int) ((X : Int) / (s : Int)) = ((X ^^^ X / s : Nat) : Int) := xorShift_u64 X s h
theorem m1_eq (z : Nat) (h : z < 18446744073709551616) : IntKind.u64.wrap (bits .xor .u64 (z : Int) ((z : Int) / 1073741824) * 13787848793156543929) = (mix1 z : Int) := by
  have e := xs64 z 1073741824 h
  rw [show ((1073741824 : Nat) : Int) = 1073741824 from rfl] at e
  rw [e, show ((z ^^^ z / 1073741824 : Nat) : Int) * 13787848793156543929 = (((z ^^^ z / 1073741824) * 13787848793156543929 : Nat) : Int) from by rw [Int.natCast_mul]; rfl, w64]
  rfl
theorem m2_eq (z : Nat) (h : z < 18446744073709551616) : IntKind.u64.wrap (bits .xor .u64 (z : Int) ((z : Int) / 134217728) * 10723151780598845931) = (mix2 z : Int) := by
  have e := xs64 z 134217728 h
  rw [show ((134217728 : Nat) : Int) = 134217728 from rfl] at e
  rw [e, show ((z ^^^ z / 134217728 : Nat) : Int) * 10723151780598845931 = (((z ^^^ z / 134217728) * 10723151780598845931 : Nat) : Int) from by rw [Int.natCast_mul]; rfl, w64]
  rfl
theorem m3_eq (z : Nat) (h : z < 18446744073709551616) : bits .xor .u64 (z : Int) ((z : Int) / 2147483648) = (mix3 z : Int) := xs64 z 2147483648 h
theorem m0_eq (x j : Nat) : IntKind.u64.wrap ((x : Int) + IntKind.u64.wrap (((j : Int) + 1) * 11400714819323198485)) = (((x + (j + 1) * 11400714819323198485 % 18446744073709551616) % 18446744073709551616 : Nat) : Int) := by
  rw [show ((j : Int) + 1) * 11400714819323198485 = (((j + 1) * 11400714819323198485 : Nat) : Int) from by rw [Int.natCast_mul]; rfl, w64, ← Int.natCast_add, w64]
theorem mix_any (x j : Nat) (hx : x < 18446744073709551616) (hj : j ≤ 3) (w : World) : Calls Try.prog 76 #[.int .u64 (x : Int), .int .i64 (j : Int)] w fun e w' => e = .returned (.int .u64 (mixN x j : Int)) ∧ w = w' := by
  go_enter Try.func76, Try.ntmps76
  go_wp2
  go_ret
  refine ⟨?_, rfl⟩
  rw [m0_eq x j, m1_eq _ (Nat.mod_lt _ (by omega)), m2_eq _ (mix1_lt _), m3_eq _ (mix2_lt _)]
  rfl
theorem ck_val (x : BitVec 64) : (mixN x.toNat 3 : Int) % 4294967296 = ((ckV x).toNat : Int) := by
  unfold ckV
  rw [BitVec.toNat_ofNat]
  generalize mixN x.toNat 3 = m
  omega
theorem check_any (x : BitVec 64) (w : World) : Calls Try.prog 61 #[.int .u64 (x.toNat : Int)] w fun e w' => e = .returned (.int .u32 ((ckV x).toNat : Int)) ∧ w = w' := by
  have hm := mix_any x.toNat 3 x.isLt (Nat.le_refl _)
  have hc := ck_val x
  generalize mixN x.toNat 3 = m at hm hc
  generalize (ckV x).toNat = q at hc ⊢
  go_enter Try.func61, Try.ntmps61
  go_wp2_with (go_at_call 76; refine (hm _).mono ?_; rintro e w' ⟨rfl, rfl⟩)
  go_ret
  exact ⟨ret_int hc, rfl⟩
theorem newAt {w : World} {g : Nat} (t : TypeId) (cs : Array Value) (h : w.heap.size = g) : GR.Blk (w.alloc (.cells cs t)) g t cs := by subst h; exact GR.Blk.new _ _ _
attribute [local irreducible] mixN
def plcV (n : Nat) (x : BitVec 64) : Array Value := #[.int .i64 (plc n x 0 : Int), .int .i64 (plc n x 1 : Int), .int .i64 (plc n x 2 : Int)]
def plcK (n : Nat) (x : BitVec 64) (k : Nat) : Array Value := #[.int .i64 (if 0 < k then (plc n x 0 : Int) else 0), .int .i64 (if 1 < k then (plc n x 1 : Int) else 0), .int .i64 (if 2 < k then (plc n x 2 : Int) else 0)]
theorem plcK_zero (n : Nat) (x : BitVec 64) : plcK n x 0 = #[.int .i64 0, .int .i64 0, .int .i64 0] := by simp [plcK]
theorem plcK_step (n : Nat) (x : BitVec 64) (k : Nat) (hk : k < 3) : (plcK n x k).setIfInBounds k (.int .i64 (plc n x k : Int)) = plcK n x (k + 1) := by
  match k, hk with
  | 0, _ => simp [plcK]
  | 1, _ => simp [plcK]
  | 2, _ => simp [plcK]
theorem plcK_get (n : Nat) (x : BitVec 64) (k : Nat) (hk : k < 3) : (plcK n x k)[k]? = some (.int .i64 0) := by
  match k, hk with
  | 0, _ => simp [plcK]
  | 1, _ => simp [plcK]
  | 2, _ => simp [plcK]
theorem plc_eq {n : Nat} (x : BitVec 64) (k : Nat) (h3 : 3 ≤ n) (hn : n ≤ 256) (hk : k < 3) :
    IntKind.i64.wrap (IntKind.i64.wrap ((k : Int) * ((n / 3 : Nat) : Int)) + IntKind.i64.wrap (((mixN x.toNat k % (n / 3) : Nat) : Int))) = (plc n x k : Int) := by
  have h1 := plc_lt x k h3 hk
  have h2 := plc_lo n x k
  have h4 : mixN x.toNat k % (n / 3) < n / 3 := Nat.mod_lt _ (by omega)
  rw [← Int.natCast_mul, IntWalk.i64_in ((k * (n / 3) : Nat) : Int) (by omega), IntWalk.i64_in ((mixN x.toNat k % (n / 3) : Nat) : Int) (by omega), ← Int.natCast_add, IntWalk.i64_in _ (by unfold plc at h1; omega)]
  rfl
theorem size3 : (Try.prog.info? 50).map (·.size) = some 3 := by kernel_rfl
set_option maxRecDepth 100000 in
set_option maxHeartbeats 12800000 in
theorem places_any (x : BitVec 64) (g : Nat) (A : Option Addr) (n c : Nat) (h3 : 3 ≤ n) (hn : n ≤ 256) (w : World) (hg : GR.Blk w g 77 #[.slice A n c]) :
    Calls Try.prog 60 #[.pointer (some ⟨g, 0, none⟩), .int .u64 (x.toNat : Int)] w fun e w' => e = .returned (.agg (plcV n x)) ∧ Below w.heap.size w w' := by
  have c0 := hg.cell 0
  have lt := hg.lt
  go_enter Try.func60, Try.ntmps60
  go_wp2_with fail
  obtain ⟨w1, h1⟩ : ∃ w1 : World, w1 = (w.alloc (.cells #[.int .i64 0, .int .i64 0, .int .i64 0] 50)).alloc (.cells #[.int .i64 0, .int .i64 0, .int .i64 0] 50) := ⟨_, rfl⟩
  have LL : Hid (Below w.heap.size w w1) := Lib.hid (by rw [h1]; exact (by repeat (first | exact Below.refl _ _ | refine bl_drewN ?_ _ | refine bl_drew ?_ | refine bl_alloc ?_ _)))
  have X0 : Hid (GR.Blk w1 w.heap.size 50 #[.int .i64 0, .int .i64 0, .int .i64 0]) := Lib.hid (by rw [h1]; exact (GR.Blk.new _ _ _).alloc _)
  have X1 : Hid (GR.Blk w1 (w.heap.size + 1) 50 (plcK n x 0)) := Lib.hid (by
    rw [h1, plcK_zero]
    refine newAt (w := w.alloc (.cells #[.int .i64 0, .int .i64 0, .int .i64 0] 50)) (g := w.heap.size + 1) _ _ ?_
    simp)
  rw [← h1]
  clear h1
  go_loopw [14] (fun i w' => ∃ k : Nat, k ≤ 3 ∧ i = .int .i64 k ∧ Hid (GR.Blk w' w.heap.size 50 #[.int .i64 0, .int .i64 0, .int .i64 0]) ∧ Hid (GR.Blk w' (w.heap.size + 1) 50 (plcK n x k)) ∧ Hid (Below w.heap.size w w')) (fun i _ => 3 - (intOf i).toNat)
  case atStart => exact ⟨0, by omega, rfl, X0, X1, LL⟩
  case round =>
    obtain ⟨k, hk, rfl, x0, x1, bb⟩ := hrel
    by_cases hlt : k < 3
    · have i0 : (0 : Int) ≤ (k : Int) := by omega
      have i1 : (k : Int) < 3 := by omega
      have f1 := x1.out.frozen k
      have f0 := (x1.out.cell k).trans (plcK_get n x k hlt)
      have hm := mix_any x.toNat k x.isLt (by omega)
      go_wp2_with (go_at_call 76; refine (hm _).mono ?_; rintro e w' ⟨rfl, rfl⟩)
      have hp : wrap64 (wrap64 ((k : Int) * ((n : Int) / 3)) + wrap64 ((mixN x.toNat k : Int) % ((n : Int) / 3))) = (plc n x k : Int) := by
        have hw : ∀ n, wrap64 n = IntKind.i64.wrap n := fun n => by unfold wrap64; exact (IntKind.wrap_i64 n).symm
        have e := plc_eq x k h3 hn hlt
        rw [hw, hw, hw]
        exact e
      rw [hp]
      refine ⟨⟨k + 1, by omega, by simp, Lib.hid (x0.out.far (by simp) _), ?_, Lib.hid (bb.out.setCell (by simp) _)⟩, by simp [intOf]; omega⟩
      have e := x1.out.set_ k (.int .i64 (plc n x k : Int))
      rw [plcK_step n x k hlt] at e
      exact Lib.hid e
    · obtain rfl : k = 3 := by omega
      have q0 : (plcK n x 3) = plcV n x := by simp [plcK, plcV]
      rw [q0] at x1
      have a0 : wr.cell? ⟨w.heap.size + 1, 0, none⟩ = some (.int .i64 (plc n x 0 : Int)) := x1.out.cell 0
      have a1 : wr.cell? ⟨w.heap.size + 1, 1, none⟩ = some (.int .i64 (plc n x 1 : Int)) := x1.out.cell 1
      have a2 : wr.cell? ⟨w.heap.size + 1, 2, none⟩ = some (.int .i64 (plc n x 2 : Int)) := x1.out.cell 2
      have b0 : wr.cell? ⟨w.heap.size, 0, none⟩ = some (.int .i64 0) := x0.out.cell 0
      have b1 : wr.cell? ⟨w.heap.size, 1, none⟩ = some (.int .i64 0) := x0.out.cell 1
      have b2 : wr.cell? ⟨w.heap.size, 2, none⟩ = some (.int .i64 0) := x0.out.cell 2
      have g0 := x0.out.frozen 0
      have g1 := x0.out.frozen 1
      have g2 := x0.out.frozen 2
      go_wp2
      have X2 : GR.Blk (((wr.setCell ⟨w.heap.size, 0, none⟩ (.int .i64 (plc n x 0 : Int))).setCell ⟨w.heap.size, 1, none⟩ (.int .i64 (plc n x 1 : Int))).setCell ⟨w.heap.size, 2, none⟩ (.int .i64 (plc n x 2 : Int))) w.heap.size 50 (plcV n x) := ((x0.out.set_ 0 _).set_ 1 _).set_ 2 _
      refine bodyPost_ret (results_cell_row rfl _ _ w.heap.size 50 (plcV n x) (0, 0) _ rfl X2 Try.underlying50 rfl size3) rfl ?_
      exact ⟨rfl, ((bb.out.setCell (by simp) _).setCell (by simp) _).setCell (by simp) _⟩
end Go.Proofs.Ytpklkjekkbpeoaa
