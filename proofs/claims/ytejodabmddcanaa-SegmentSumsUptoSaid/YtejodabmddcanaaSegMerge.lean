/- DERIVED. Merge of two lists of entries, as Diff calls it. -/
import Derived.Test.YtejodabmddcanaaSegEach
import Derived.Deep.RegionHeld3
namespace Go.Proofs.Ytejodabmddcanaa
open Go.RowKit

theorem run_equalIn_func_nil {P : Program} (d : Nat) (t : TypeId) (x y : Array TypeId) (b : Bool) (f : Fn) (a c : Array Value) (w : World) (h : P.underlying t = some (.func x y b)) : (Op.equalIn (d + 1) t (.func f a c) .nilFunc).run P w = .ok false w := by
  simp [Op.equalIn, run_underlying h]
theorem run_equal_func_nil {P : Program} (t : TypeId) (x y : Array TypeId) (b : Bool) (f : Fn) (a c : Array Value) (w : World) (h : P.underlying t = some (.func x y b)) : (Op.equal t (.func f a c) .nilFunc).run P w = .ok false w := by
  exact run_equalIn_func_nil 9999 t x y b f a c w h
theorem eqf76 (f : Fn) (a c : Array Value) (w : World) : (binOp .eql 76 (.func f a c) .nilFunc).run Try.prog w = .ok (.bool false) w := by
  simp [binOp, run_equal_func_nil _ _ _ _ f a c w Try.underlying76]
theorem eqf78 (f : Fn) (a c : Array Value) (w : World) : (binOp .eql 78 (.func f a c) .nilFunc).run Try.prog w = .ok (.bool false) w := by
  simp [binOp, run_equal_func_nil _ _ _ _ f a c w Try.underlying78]
attribute [local go_sem high] eqf76 eqf78
theorem bx_below {w w' : World} {g : Nat} {t : TypeId} {cs : Array Value} (h : GR.Blk w g t cs) (hb : Below w.heap.size w w') : GR.Blk w' g t cs := h.below hb h.lt
theorem bx_then {w w' : World} {o : Obj} {g : Nat} {t : TypeId} {cs : Array Value} (h : GR.Blk w g t cs) (hb : Below (w.alloc o).heap.size (w.alloc o) w') : GR.Blk w' g t cs := bx_below (h.alloc o) hb
theorem bx_new {w w' : World} {t : TypeId} {cs : Array Value} (hb : Below (w.alloc (.cells cs t)).heap.size (w.alloc (.cells cs t)) w') : GR.Blk w' w.heap.size t cs := bx_below (GR.Blk.new w t cs) hb

set_option maxRecDepth 100000 in
set_option maxHeartbeats 12800000 in
theorem merge_any (w0 : World) (A B : Option Addr) (c d g : Nat) (a b : List Ent) (w : World) (ha : Rd w0 A a) (hb : Rd w0 B b) (hb0 : Below w0.heap.size w0 w) (hg : w0.heap.size ≤ g)
    (bg0 : GR.Blk w g 44 #[.slice none 0 0]) (la : a.length ≤ 1048576) (lb : b.length ≤ 1048576) (sa : ∀ x ∈ a, x.sum ≠ em) (sb : ∀ x ∈ b, x.sum ≠ em) :
    Calls Try.prog 59 #[.slice A a.length c, .slice B b.length d, .func (.func 60) #[] #[], .func (.func 60) #[] #[], .func (.func 61) #[] #[.pointer (some ⟨g, 0, none⟩)]] w
      fun e w' => e = .returned (.tuple #[]) ∧ (∃ v, GR.Blk w' g 44 #[v] ∧ GR.Own difK w' w0.heap.size v (dif a b)) ∧ Below w0.heap.size w0 w' := by
  have HA := Lib.hid ha
  have HB := Lib.hid hb
  have B0 := Lib.hid hb0
  have G0 := Lib.hid bg0
  have SA := Lib.hid sa
  have SB := Lib.hid sb
  clear ha hb hb0 bg0 sa sb
  go_enter Try.func59, Try.ntmps59
  go_wp2
  go_loopw [10, 11] (fun i0 k0 w' => ∃ (i k : Nat) (v : Value) (acc : List Dif), i ≤ a.length ∧ k ≤ b.length ∧ i0 = .int .i64 i ∧ k0 = .int .i64 k ∧ Hid (acc ++ dif (a.drop i) (b.drop k) = dif a b) ∧ acc.length ≤ i + k ∧ Hid (GR.Blk w' g 44 #[v]) ∧ Hid (GR.Own difK w' w0.heap.size v acc) ∧ Hid (Below w0.heap.size w0 w')) (fun i k _ => a.length - (intOf i).toNat + (b.length - (intOf k).toNat))
  case atStart => exact ⟨0, 0, _, [], Nat.zero_le _, Nat.zero_le _, rfl, rfl, Lib.hid (by simp), by simp, G0, Lib.hid (GR.Own.nil _ _ _), B0⟩
  case round =>
    obtain ⟨i, k, v, acc, hia, hkb, rfl, rfl, hD, hal, bg, ho, hbl⟩ := hrel
    have HR := Lib.hid (Below.refl wr.heap.size wr)
    by_cases hi : i < a.length
    · by_cases hk : k < b.length
      · rcases ltK_tri a[i].key b[k].key with ⟨h1, _, h2⟩ | h1 | ⟨h2, _, h1⟩
        · have HD := Lib.hid (dif_left (b := b) (k := k) hi (.inr ⟨hk, h1⟩))
          have HC := Lib.hid (show Lib.compareBytes a[i].key.data.toList b[k].key.data.toList = -1 from cmpK_lt h1)
          clear h1 h2
          obtain ⟨ad, e1, k0, k1⟩ := HA.out.at_ i hi
          cases e1
          have c0 := (hbl.out.cell (World.block_lt_of_cell? w0 _ k0)).trans k0
          have c1 := (hbl.out.cell (World.block_lt_of_cell? w0 _ k1)).trans k1
          clear k0 k1
          have KA0 := Lib.hid c0
          have KA1 := Lib.hid c1
          obtain ⟨bd, e2, k0, k1⟩ := HB.out.at_ k hk
          cases e2
          have d0 := (hbl.out.cell (World.block_lt_of_cell? w0 _ k0)).trans k0
          have d1 := (hbl.out.cell (World.block_lt_of_cell? w0 _ k1)).trans k1
          clear k0 k1
          have KB0 := Lib.hid d0
          have KB1 := Lib.hid d1
          have ti1 : decide ((i : Int) < (a.length : Int)) = true := by simp; omega
          have ti2 : decide (i < a.length) = true := by simp; omega
          have ti3 : ((i : Int) == (a.length : Int)) = false := by simp; omega
          have ti4 : (i == a.length) = false := by simp; omega
          have ti5 : (0 : Int) ≤ (i : Int) := by omega
          have ti6 : (i : Int) < (a.length : Int) := by omega
          have tk1 : decide ((k : Int) < (b.length : Int)) = true := by simp; omega
          have tk2 : decide (k < b.length) = true := by simp; omega
          have tk3 : ((k : Int) == (b.length : Int)) = false := by simp; omega
          have tk4 : (k == b.length) = false := by simp; omega
          have tk5 : (0 : Int) ≤ (k : Int) := by omega
          have tk6 : (k : Int) < (b.length : Int) := by omega
          go_wp2
          go_region_held3 (fun w' => w'.cell? (ad.add (i * 2)) = some (.string a[i].key) ∧ w'.cell? ⟨(ad.add (i * 2)).block, (ad.add (i * 2)).off + 1, none⟩ = some (.string a[i].sum) ∧ w'.cell? (bd.add (k * 2)) = some (.string b[k].key) ∧ w'.cell? ⟨(bd.add (k * 2)).block, (bd.add (k * 2)).off + 1, none⟩ = some (.string b[k].sum)) (first | go_keep | exact ⟨(HR.out.cell (World.block_lt_of_cell? wr _ KA0.out)).trans KA0.out, (HR.out.cell (World.block_lt_of_cell? wr _ KA1.out)).trans KA1.out, (HR.out.cell (World.block_lt_of_cell? wr _ KB0.out)).trans KB0.out, (HR.out.cell (World.block_lt_of_cell? wr _ KB1.out)).trans KB1.out⟩) (first | (go_at_call 60; refine (keyed_any _ _ _).mono ?_; rintro e w2 ⟨rfl, hb2⟩; have HN := Lib.hid (bl_then (w := wr) (by repeat (first | exact HR.out | refine bl_drewN ?_ _ | refine bl_drew ?_ | refine bl_alloc ?_ _)) hb2); clear hb2 HR; have HR := HN; clear HN) | (go_at_call 53; refine (compare_any _ _ _).mono ?_; rintro e w2 ⟨rfl, rfl⟩; rw [HC.out]))
          go_wp2_with (first | (go_at_call 61; refine (each_left w0.heap.size g _ v acc _ _ a[i] HX.out (SA.out _ (List.getElem_mem hi)) hg (bx_below bg.out (by repeat (first | exact HR.out | refine bl_drewN ?_ _ | refine bl_drew ?_ | refine bl_alloc ?_ _))) (ho.out.below (by repeat (first | exact HR.out | refine bl_drewN ?_ _ | refine bl_drew ?_ | refine bl_alloc ?_ _))) (by omega)).mono ?_; rintro e w5 ⟨rfl, ⟨v5, hb5, ho5⟩, hbl5⟩; have HE5 := Lib.hid hb5; have HO5 := Lib.hid ho5; have HB5 := Lib.hid ((bl_then hbl.out (by repeat (first | exact HR.out | refine bl_drewN ?_ _ | refine bl_drew ?_ | refine bl_alloc ?_ _))).trans hbl5); clear hb5 ho5 hbl5) | (go_at_call 60; refine (keyed_any _ _ _).mono ?_; rintro e w2 ⟨rfl, hb2⟩; have HX := Lib.hid (bx_new hb2); have HN := Lib.hid (bl_then (w := wr) (by repeat (first | exact HR.out | refine bl_drewN ?_ _ | refine bl_drew ?_ | refine bl_alloc ?_ _)) hb2); clear hb2 HR; have HR := HN; clear HN))
          go_roundw
          case rel => exact ⟨i + 1, k, _, acc ++ [⟨a[i].key, a[i].sum, em⟩], by omega, by omega, by go_num, rfl, Lib.hid (by have := HD.out; rw [← hD.out, this]; try simp), by first | omega | (simp; omega), HE5, HO5, HB5⟩
          case measure => simp [intOf]; omega
        · have s1 : ltK a[i].key b[k].key = false := by rw [h1, ltK_irrefl]
          have s2 : ltK b[k].key a[i].key = false := by rw [h1, ltK_irrefl]
          have HC := Lib.hid (show Lib.compareBytes a[i].key.data.toList b[k].key.data.toList = 0 by rw [h1]; exact cmpK_self _)
          by_cases hs : a[i].sum = b[k].sum
          · have HD := Lib.hid (dif_same hi hk s1 s2 hs)
            have HS := Lib.hid hs
            clear h1 s1 s2 hs
            obtain ⟨ad, e1, k0, k1⟩ := HA.out.at_ i hi
            cases e1
            have c0 := (hbl.out.cell (World.block_lt_of_cell? w0 _ k0)).trans k0
            have c1 := (hbl.out.cell (World.block_lt_of_cell? w0 _ k1)).trans k1
            clear k0 k1
            have KA0 := Lib.hid c0
            have KA1 := Lib.hid c1
            obtain ⟨bd, e2, k0, k1⟩ := HB.out.at_ k hk
            cases e2
            have d0 := (hbl.out.cell (World.block_lt_of_cell? w0 _ k0)).trans k0
            have d1 := (hbl.out.cell (World.block_lt_of_cell? w0 _ k1)).trans k1
            clear k0 k1
            have KB0 := Lib.hid d0
            have KB1 := Lib.hid d1
            have ti1 : decide ((i : Int) < (a.length : Int)) = true := by simp; omega
            have ti2 : decide (i < a.length) = true := by simp; omega
            have ti3 : ((i : Int) == (a.length : Int)) = false := by simp; omega
            have ti4 : (i == a.length) = false := by simp; omega
            have ti5 : (0 : Int) ≤ (i : Int) := by omega
            have ti6 : (i : Int) < (a.length : Int) := by omega
            have tk1 : decide ((k : Int) < (b.length : Int)) = true := by simp; omega
            have tk2 : decide (k < b.length) = true := by simp; omega
            have tk3 : ((k : Int) == (b.length : Int)) = false := by simp; omega
            have tk4 : (k == b.length) = false := by simp; omega
            have tk5 : (0 : Int) ≤ (k : Int) := by omega
            have tk6 : (k : Int) < (b.length : Int) := by omega
            go_wp2
            go_region_held3 (fun w' => w'.cell? (ad.add (i * 2)) = some (.string a[i].key) ∧ w'.cell? ⟨(ad.add (i * 2)).block, (ad.add (i * 2)).off + 1, none⟩ = some (.string a[i].sum) ∧ w'.cell? (bd.add (k * 2)) = some (.string b[k].key) ∧ w'.cell? ⟨(bd.add (k * 2)).block, (bd.add (k * 2)).off + 1, none⟩ = some (.string b[k].sum)) (first | go_keep | exact ⟨(HR.out.cell (World.block_lt_of_cell? wr _ KA0.out)).trans KA0.out, (HR.out.cell (World.block_lt_of_cell? wr _ KA1.out)).trans KA1.out, (HR.out.cell (World.block_lt_of_cell? wr _ KB0.out)).trans KB0.out, (HR.out.cell (World.block_lt_of_cell? wr _ KB1.out)).trans KB1.out⟩) (first | (go_at_call 60; refine (keyed_any _ _ _).mono ?_; rintro e w2 ⟨rfl, hb2⟩; have HN := Lib.hid (bl_then (w := wr) (by repeat (first | exact HR.out | refine bl_drewN ?_ _ | refine bl_drew ?_ | refine bl_alloc ?_ _)) hb2); clear hb2 HR; have HR := HN; clear HN) | (go_at_call 53; refine (compare_any _ _ _).mono ?_; rintro e w2 ⟨rfl, rfl⟩; rw [HC.out]))
            go_wp2_with (first | (go_at_call 61; refine (each_same w0.heap.size g _ v acc _ _ a[i] HX2.out _ b[k] HY.out HS.out hg (bx_below bg.out (by repeat (first | exact HR.out | refine bl_drewN ?_ _ | refine bl_drew ?_ | refine bl_alloc ?_ _))) (ho.out.below (by repeat (first | exact HR.out | refine bl_drewN ?_ _ | refine bl_drew ?_ | refine bl_alloc ?_ _))) (by omega)).mono ?_; rintro e w5 ⟨rfl, ⟨v5, hb5, ho5⟩, hbl5⟩; have HE5 := Lib.hid hb5; have HO5 := Lib.hid ho5; have HB5 := Lib.hid ((bl_then hbl.out (by repeat (first | exact HR.out | refine bl_drewN ?_ _ | refine bl_drew ?_ | refine bl_alloc ?_ _))).trans hbl5); clear hb5 ho5 hbl5) | (go_at_call 60; refine (keyed_any _ _ _).mono ?_; rintro e w2 ⟨rfl, hb2⟩; have HY := Lib.hid (bx_new hb2); have HX2 := Lib.hid (bx_then HX.out hb2); have HN := Lib.hid (bl_then (w := wr) (by repeat (first | exact HR.out | refine bl_drewN ?_ _ | refine bl_drew ?_ | refine bl_alloc ?_ _)) hb2); clear hb2 HR; have HR := HN; clear HN) | (go_at_call 60; refine (keyed_any _ _ _).mono ?_; rintro e w2 ⟨rfl, hb2⟩; have HX := Lib.hid (bx_new hb2); have HN := Lib.hid (bl_then (w := wr) (by repeat (first | exact HR.out | refine bl_drewN ?_ _ | refine bl_drew ?_ | refine bl_alloc ?_ _)) hb2); clear hb2 HR; have HR := HN; clear HN; have y0 := (HR.out.cell (World.block_lt_of_cell? wr _ KB0.out)).trans KB0.out; have y1 := (HR.out.cell (World.block_lt_of_cell? wr _ KB1.out)).trans KB1.out))
            go_roundw
            case rel => exact ⟨i + 1, k + 1, _, acc, by omega, by omega, by go_num, by go_num, Lib.hid (by have := HD.out; rw [← hD.out, this]; try simp), by first | omega | (simp; omega), HE5, HO5, HB5⟩
            case measure => simp [intOf]; omega
          · have HD := Lib.hid (dif_both hi hk s1 s2 hs)
            rw [h1] at HD
            have HS := Lib.hid hs
            clear h1 s1 s2 hs
            obtain ⟨ad, e1, k0, k1⟩ := HA.out.at_ i hi
            cases e1
            have c0 := (hbl.out.cell (World.block_lt_of_cell? w0 _ k0)).trans k0
            have c1 := (hbl.out.cell (World.block_lt_of_cell? w0 _ k1)).trans k1
            clear k0 k1
            have KA0 := Lib.hid c0
            have KA1 := Lib.hid c1
            obtain ⟨bd, e2, k0, k1⟩ := HB.out.at_ k hk
            cases e2
            have d0 := (hbl.out.cell (World.block_lt_of_cell? w0 _ k0)).trans k0
            have d1 := (hbl.out.cell (World.block_lt_of_cell? w0 _ k1)).trans k1
            clear k0 k1
            have KB0 := Lib.hid d0
            have KB1 := Lib.hid d1
            have ti1 : decide ((i : Int) < (a.length : Int)) = true := by simp; omega
            have ti2 : decide (i < a.length) = true := by simp; omega
            have ti3 : ((i : Int) == (a.length : Int)) = false := by simp; omega
            have ti4 : (i == a.length) = false := by simp; omega
            have ti5 : (0 : Int) ≤ (i : Int) := by omega
            have ti6 : (i : Int) < (a.length : Int) := by omega
            have tk1 : decide ((k : Int) < (b.length : Int)) = true := by simp; omega
            have tk2 : decide (k < b.length) = true := by simp; omega
            have tk3 : ((k : Int) == (b.length : Int)) = false := by simp; omega
            have tk4 : (k == b.length) = false := by simp; omega
            have tk5 : (0 : Int) ≤ (k : Int) := by omega
            have tk6 : (k : Int) < (b.length : Int) := by omega
            go_wp2
            go_region_held3 (fun w' => w'.cell? (ad.add (i * 2)) = some (.string a[i].key) ∧ w'.cell? ⟨(ad.add (i * 2)).block, (ad.add (i * 2)).off + 1, none⟩ = some (.string a[i].sum) ∧ w'.cell? (bd.add (k * 2)) = some (.string b[k].key) ∧ w'.cell? ⟨(bd.add (k * 2)).block, (bd.add (k * 2)).off + 1, none⟩ = some (.string b[k].sum)) (first | go_keep | exact ⟨(HR.out.cell (World.block_lt_of_cell? wr _ KA0.out)).trans KA0.out, (HR.out.cell (World.block_lt_of_cell? wr _ KA1.out)).trans KA1.out, (HR.out.cell (World.block_lt_of_cell? wr _ KB0.out)).trans KB0.out, (HR.out.cell (World.block_lt_of_cell? wr _ KB1.out)).trans KB1.out⟩) (first | (go_at_call 60; refine (keyed_any _ _ _).mono ?_; rintro e w2 ⟨rfl, hb2⟩; have HN := Lib.hid (bl_then (w := wr) (by repeat (first | exact HR.out | refine bl_drewN ?_ _ | refine bl_drew ?_ | refine bl_alloc ?_ _)) hb2); clear hb2 HR; have HR := HN; clear HN) | (go_at_call 53; refine (compare_any _ _ _).mono ?_; rintro e w2 ⟨rfl, rfl⟩; rw [HC.out]))
            go_wp2_with (first | (go_at_call 61; refine (each_both w0.heap.size g _ v acc _ _ a[i] HX2.out _ b[k] HY.out HS.out hg (bx_below bg.out (by repeat (first | exact HR.out | refine bl_drewN ?_ _ | refine bl_drew ?_ | refine bl_alloc ?_ _))) (ho.out.below (by repeat (first | exact HR.out | refine bl_drewN ?_ _ | refine bl_drew ?_ | refine bl_alloc ?_ _))) (by omega)).mono ?_; rintro e w5 ⟨rfl, ⟨v5, hb5, ho5⟩, hbl5⟩; have HE5 := Lib.hid hb5; have HO5 := Lib.hid ho5; have HB5 := Lib.hid ((bl_then hbl.out (by repeat (first | exact HR.out | refine bl_drewN ?_ _ | refine bl_drew ?_ | refine bl_alloc ?_ _))).trans hbl5); clear hb5 ho5 hbl5) | (go_at_call 60; refine (keyed_any _ _ _).mono ?_; rintro e w2 ⟨rfl, hb2⟩; have HY := Lib.hid (bx_new hb2); have HX2 := Lib.hid (bx_then HX.out hb2); have HN := Lib.hid (bl_then (w := wr) (by repeat (first | exact HR.out | refine bl_drewN ?_ _ | refine bl_drew ?_ | refine bl_alloc ?_ _)) hb2); clear hb2 HR; have HR := HN; clear HN) | (go_at_call 60; refine (keyed_any _ _ _).mono ?_; rintro e w2 ⟨rfl, hb2⟩; have HX := Lib.hid (bx_new hb2); have HN := Lib.hid (bl_then (w := wr) (by repeat (first | exact HR.out | refine bl_drewN ?_ _ | refine bl_drew ?_ | refine bl_alloc ?_ _)) hb2); clear hb2 HR; have HR := HN; clear HN; have y0 := (HR.out.cell (World.block_lt_of_cell? wr _ KB0.out)).trans KB0.out; have y1 := (HR.out.cell (World.block_lt_of_cell? wr _ KB1.out)).trans KB1.out))
            go_roundw
            case rel => exact ⟨i + 1, k + 1, _, acc ++ [⟨b[k].key, a[i].sum, b[k].sum⟩], by omega, by omega, by go_num, by go_num, Lib.hid (by have := HD.out; rw [← hD.out, this]; try simp), by first | omega | (simp; omega), HE5, HO5, HB5⟩
            case measure => simp [intOf]; omega
        · have HD := Lib.hid (dif_right hk (.inr ⟨hi, h1, h2⟩))
          have HC := Lib.hid (show Lib.compareBytes a[i].key.data.toList b[k].key.data.toList = 1 from cmpK_gt h2)
          clear h1 h2
          obtain ⟨ad, e1, k0, k1⟩ := HA.out.at_ i hi
          cases e1
          have c0 := (hbl.out.cell (World.block_lt_of_cell? w0 _ k0)).trans k0
          have c1 := (hbl.out.cell (World.block_lt_of_cell? w0 _ k1)).trans k1
          clear k0 k1
          have KA0 := Lib.hid c0
          have KA1 := Lib.hid c1
          obtain ⟨bd, e2, k0, k1⟩ := HB.out.at_ k hk
          cases e2
          have d0 := (hbl.out.cell (World.block_lt_of_cell? w0 _ k0)).trans k0
          have d1 := (hbl.out.cell (World.block_lt_of_cell? w0 _ k1)).trans k1
          clear k0 k1
          have KB0 := Lib.hid d0
          have KB1 := Lib.hid d1
          have ti1 : decide ((i : Int) < (a.length : Int)) = true := by simp; omega
          have ti2 : decide (i < a.length) = true := by simp; omega
          have ti3 : ((i : Int) == (a.length : Int)) = false := by simp; omega
          have ti4 : (i == a.length) = false := by simp; omega
          have ti5 : (0 : Int) ≤ (i : Int) := by omega
          have ti6 : (i : Int) < (a.length : Int) := by omega
          have tk1 : decide ((k : Int) < (b.length : Int)) = true := by simp; omega
          have tk2 : decide (k < b.length) = true := by simp; omega
          have tk3 : ((k : Int) == (b.length : Int)) = false := by simp; omega
          have tk4 : (k == b.length) = false := by simp; omega
          have tk5 : (0 : Int) ≤ (k : Int) := by omega
          have tk6 : (k : Int) < (b.length : Int) := by omega
          go_wp2
          go_region_held3 (fun w' => w'.cell? (ad.add (i * 2)) = some (.string a[i].key) ∧ w'.cell? ⟨(ad.add (i * 2)).block, (ad.add (i * 2)).off + 1, none⟩ = some (.string a[i].sum) ∧ w'.cell? (bd.add (k * 2)) = some (.string b[k].key) ∧ w'.cell? ⟨(bd.add (k * 2)).block, (bd.add (k * 2)).off + 1, none⟩ = some (.string b[k].sum)) (first | go_keep | exact ⟨(HR.out.cell (World.block_lt_of_cell? wr _ KA0.out)).trans KA0.out, (HR.out.cell (World.block_lt_of_cell? wr _ KA1.out)).trans KA1.out, (HR.out.cell (World.block_lt_of_cell? wr _ KB0.out)).trans KB0.out, (HR.out.cell (World.block_lt_of_cell? wr _ KB1.out)).trans KB1.out⟩) (first | (go_at_call 60; refine (keyed_any _ _ _).mono ?_; rintro e w2 ⟨rfl, hb2⟩; have HN := Lib.hid (bl_then (w := wr) (by repeat (first | exact HR.out | refine bl_drewN ?_ _ | refine bl_drew ?_ | refine bl_alloc ?_ _)) hb2); clear hb2 HR; have HR := HN; clear HN) | (go_at_call 53; refine (compare_any _ _ _).mono ?_; rintro e w2 ⟨rfl, rfl⟩; rw [HC.out]))
          go_wp2_with (first | (go_at_call 61; refine (each_right w0.heap.size g _ v acc _ _ b[k] HX.out (fun h => SB.out _ (List.getElem_mem hk) h.symm) hg (bx_below bg.out (by repeat (first | exact HR.out | refine bl_drewN ?_ _ | refine bl_drew ?_ | refine bl_alloc ?_ _))) (ho.out.below (by repeat (first | exact HR.out | refine bl_drewN ?_ _ | refine bl_drew ?_ | refine bl_alloc ?_ _))) (by omega)).mono ?_; rintro e w5 ⟨rfl, ⟨v5, hb5, ho5⟩, hbl5⟩; have HE5 := Lib.hid hb5; have HO5 := Lib.hid ho5; have HB5 := Lib.hid ((bl_then hbl.out (by repeat (first | exact HR.out | refine bl_drewN ?_ _ | refine bl_drew ?_ | refine bl_alloc ?_ _))).trans hbl5); clear hb5 ho5 hbl5) | (go_at_call 60; refine (keyed_any _ _ _).mono ?_; rintro e w2 ⟨rfl, hb2⟩; have HX := Lib.hid (bx_new hb2); have HN := Lib.hid (bl_then (w := wr) (by repeat (first | exact HR.out | refine bl_drewN ?_ _ | refine bl_drew ?_ | refine bl_alloc ?_ _)) hb2); clear hb2 HR; have HR := HN; clear HN))
          go_roundw
          case rel => exact ⟨i, k + 1, _, acc ++ [⟨b[k].key, em, b[k].sum⟩], by omega, by omega, rfl, by go_num, Lib.hid (by have := HD.out; rw [← hD.out, this]; try simp), by first | omega | (simp; omega), HE5, HO5, HB5⟩
          case measure => simp [intOf]; omega
      · have HD := Lib.hid (dif_left (b := b) (k := k) hi (.inl (by omega)))
        obtain ⟨ad, e1, k0, k1⟩ := HA.out.at_ i hi
        cases e1
        have c0 := (hbl.out.cell (World.block_lt_of_cell? w0 _ k0)).trans k0
        have c1 := (hbl.out.cell (World.block_lt_of_cell? w0 _ k1)).trans k1
        clear k0 k1
        have KA0 := Lib.hid c0
        have KA1 := Lib.hid c1
        have ti1 : decide ((i : Int) < (a.length : Int)) = true := by simp; omega
        have ti2 : decide (i < a.length) = true := by simp; omega
        have ti3 : ((i : Int) == (a.length : Int)) = false := by simp; omega
        have ti4 : (i == a.length) = false := by simp; omega
        have ti5 : (0 : Int) ≤ (i : Int) := by omega
        have ti6 : (i : Int) < (a.length : Int) := by omega
        have tk1 : decide ((k : Int) < (b.length : Int)) = false := by simp; omega
        have tk2 : decide (k < b.length) = false := by simp; omega
        have tk3 : ((k : Int) == (b.length : Int)) = true := by simp; omega
        have tk4 : (k == b.length) = true := by simp; omega
        go_wp2_with (first | (go_at_call 61; refine (each_left w0.heap.size g _ v acc _ _ a[i] HX.out (SA.out _ (List.getElem_mem hi)) hg (bx_below bg.out (by repeat (first | exact HR.out | refine bl_drewN ?_ _ | refine bl_drew ?_ | refine bl_alloc ?_ _))) (ho.out.below (by repeat (first | exact HR.out | refine bl_drewN ?_ _ | refine bl_drew ?_ | refine bl_alloc ?_ _))) (by omega)).mono ?_; rintro e w5 ⟨rfl, ⟨v5, hb5, ho5⟩, hbl5⟩; have HE5 := Lib.hid hb5; have HO5 := Lib.hid ho5; have HB5 := Lib.hid ((bl_then hbl.out (by repeat (first | exact HR.out | refine bl_drewN ?_ _ | refine bl_drew ?_ | refine bl_alloc ?_ _))).trans hbl5); clear hb5 ho5 hbl5) | (go_at_call 60; refine (keyed_any _ _ _).mono ?_; rintro e w2 ⟨rfl, hb2⟩; have HX := Lib.hid (bx_new hb2); have HN := Lib.hid (bl_then (w := wr) (by repeat (first | exact HR.out | refine bl_drewN ?_ _ | refine bl_drew ?_ | refine bl_alloc ?_ _)) hb2); clear hb2 HR; have HR := HN; clear HN))
        go_roundw
        case rel => exact ⟨i + 1, k, _, acc ++ [⟨a[i].key, a[i].sum, em⟩], by omega, by omega, by go_num, rfl, Lib.hid (by have := HD.out; rw [← hD.out, this]; try simp), by first | omega | (simp; omega), HE5, HO5, HB5⟩
        case measure => simp [intOf]; omega
    · by_cases hk : k < b.length
      · have HD := Lib.hid (dif_right (a := a) (i := i) hk (.inl (by omega)))
        obtain ⟨bd, e2, k0, k1⟩ := HB.out.at_ k hk
        cases e2
        have d0 := (hbl.out.cell (World.block_lt_of_cell? w0 _ k0)).trans k0
        have d1 := (hbl.out.cell (World.block_lt_of_cell? w0 _ k1)).trans k1
        clear k0 k1
        have KB0 := Lib.hid d0
        have KB1 := Lib.hid d1
        have ti1 : decide ((i : Int) < (a.length : Int)) = false := by simp; omega
        have ti2 : decide (i < a.length) = false := by simp; omega
        have ti3 : ((i : Int) == (a.length : Int)) = true := by simp; omega
        have ti4 : (i == a.length) = true := by simp; omega
        have tk1 : decide ((k : Int) < (b.length : Int)) = true := by simp; omega
        have tk2 : decide (k < b.length) = true := by simp; omega
        have tk3 : ((k : Int) == (b.length : Int)) = false := by simp; omega
        have tk4 : (k == b.length) = false := by simp; omega
        have tk5 : (0 : Int) ≤ (k : Int) := by omega
        have tk6 : (k : Int) < (b.length : Int) := by omega
        go_wp2_with (first | (go_at_call 61; refine (each_right w0.heap.size g _ v acc _ _ b[k] HX.out (fun h => SB.out _ (List.getElem_mem hk) h.symm) hg (bx_below bg.out (by repeat (first | exact HR.out | refine bl_drewN ?_ _ | refine bl_drew ?_ | refine bl_alloc ?_ _))) (ho.out.below (by repeat (first | exact HR.out | refine bl_drewN ?_ _ | refine bl_drew ?_ | refine bl_alloc ?_ _))) (by omega)).mono ?_; rintro e w5 ⟨rfl, ⟨v5, hb5, ho5⟩, hbl5⟩; have HE5 := Lib.hid hb5; have HO5 := Lib.hid ho5; have HB5 := Lib.hid ((bl_then hbl.out (by repeat (first | exact HR.out | refine bl_drewN ?_ _ | refine bl_drew ?_ | refine bl_alloc ?_ _))).trans hbl5); clear hb5 ho5 hbl5) | (go_at_call 60; refine (keyed_any _ _ _).mono ?_; rintro e w2 ⟨rfl, hb2⟩; have HX := Lib.hid (bx_new hb2); have HN := Lib.hid (bl_then (w := wr) (by repeat (first | exact HR.out | refine bl_drewN ?_ _ | refine bl_drew ?_ | refine bl_alloc ?_ _)) hb2); clear hb2 HR; have HR := HN; clear HN))
        go_roundw
        case rel => exact ⟨i, k + 1, _, acc ++ [⟨b[k].key, em, b[k].sum⟩], by omega, by omega, rfl, by go_num, Lib.hid (by have := HD.out; rw [← hD.out, this]; try simp), by first | omega | (simp; omega), HE5, HO5, HB5⟩
        case measure => simp [intOf]; omega
      · have HE := Lib.hid (show dif a b = acc by
          have := hD.out
          rw [List.drop_eq_nil_of_le (by omega), List.drop_eq_nil_of_le (by omega), dif_end, List.append_nil] at this
          rw [this])
        have ti1 : decide ((i : Int) < (a.length : Int)) = false := by simp; omega
        have ti2 : decide (i < a.length) = false := by simp; omega
        have ti3 : ((i : Int) == (a.length : Int)) = true := by simp; omega
        have ti4 : (i == a.length) = true := by simp; omega
        have tk1 : decide ((k : Int) < (b.length : Int)) = false := by simp; omega
        have tk2 : decide (k < b.length) = false := by simp; omega
        have tk3 : ((k : Int) == (b.length : Int)) = true := by simp; omega
        have tk4 : (k == b.length) = true := by simp; omega
        go_wp2
        go_end0
        exact ⟨rfl, ⟨v, bg.out, by rw [HE.out]; exact ho.out⟩, hbl.out⟩
end Go.Proofs.Ytejodabmddcanaa
