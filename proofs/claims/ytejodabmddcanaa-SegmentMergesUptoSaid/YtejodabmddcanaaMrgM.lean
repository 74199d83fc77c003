/- DERIVED. Merge of an item list and a number list, as the statement calls it. -/
import Derived.Test.YtejodabmddcanaaMrgE
import Derived.Deep.RegionHeld3
namespace Go.Proofs.Ytejodabmddcanaa
open Go.RowKit

theorem run_equalIn_func_nil' {P : Program} (d : Nat) (t : TypeId) (x y : Array TypeId) (b : Bool) (f : Fn) (a c : Array Value) (w : World) (h : P.underlying t = some (.func x y b)) : (Op.equalIn (d + 1) t (.func f a c) .nilFunc).run P w = .ok false w := by
  simp [Op.equalIn, run_underlying h]
theorem run_equal_func_nil' {P : Program} (t : TypeId) (x y : Array TypeId) (b : Bool) (f : Fn) (a c : Array Value) (w : World) (h : P.underlying t = some (.func x y b)) : (Op.equal t (.func f a c) .nilFunc).run P w = .ok false w := by
  exact run_equalIn_func_nil' 9999 t x y b f a c w h
theorem run_equalIn_nil_nil' {P : Program} (d : Nat) (t : TypeId) (x y : Array TypeId) (b : Bool) (w : World) (h : P.underlying t = some (.func x y b)) : (Op.equalIn (d + 1) t .nilFunc .nilFunc).run P w = .ok true w := by
  simp [Op.equalIn, run_underlying h]
theorem run_equal_nil_nil' {P : Program} (t : TypeId) (x y : Array TypeId) (b : Bool) (w : World) (h : P.underlying t = some (.func x y b)) : (Op.equal t .nilFunc .nilFunc).run P w = .ok true w := by
  exact run_equalIn_nil_nil' 9999 t x y b w h
theorem eqfL (f : Fn) (a c : Array Value) (w : World) : (binOp .eql 29 (.func f a c) .nilFunc).run Try.prog w = .ok (.bool false) w := by
  simp [binOp, run_equal_func_nil' _ _ _ _ f a c w Try.underlying29]
theorem eqnL (w : World) : (binOp .eql 29 .nilFunc .nilFunc).run Try.prog w = .ok (.bool true) w := by
  simp [binOp, run_equal_nil_nil' _ _ _ _ w Try.underlying29]
theorem eqfR (f : Fn) (a c : Array Value) (w : World) : (binOp .eql 30 (.func f a c) .nilFunc).run Try.prog w = .ok (.bool false) w := by
  simp [binOp, run_equal_func_nil' _ _ _ _ f a c w Try.underlying30]
theorem eqnR (w : World) : (binOp .eql 30 .nilFunc .nilFunc).run Try.prog w = .ok (.bool true) w := by
  simp [binOp, run_equal_nil_nil' _ _ _ _ w Try.underlying30]
theorem eqfE (f : Fn) (a c : Array Value) (w : World) : (binOp .eql 35 (.func f a c) .nilFunc).run Try.prog w = .ok (.bool false) w := by
  simp [binOp, run_equal_func_nil' _ _ _ _ f a c w Try.underlying35]
theorem eqnE (w : World) : (binOp .eql 35 .nilFunc .nilFunc).run Try.prog w = .ok (.bool true) w := by
  simp [binOp, run_equal_nil_nil' _ _ _ _ w Try.underlying35]
attribute [local go_sem high] eqfL eqnL eqfR eqnR eqfE eqnE
theorem bx_below {w w' : World} {g : Nat} {t : TypeId} {cs : Array Value} (h : GR.Blk w g t cs) (hb : Below w.heap.size w w') : GR.Blk w' g t cs := h.below hb h.lt
theorem bx_new {w w' : World} {t : TypeId} {cs : Array Value} (hb : Below (w.alloc (.cells cs t)).heap.size (w.alloc (.cells cs t)) w') : GR.Blk w' w.heap.size t cs := bx_below (GR.Blk.new w t cs) hb
theorem bx_sz {w w' : World} {o : Obj} {n : Nat} (h : n ≤ w.heap.size) (_ : Below (w.alloc o).heap.size (w.alloc o) w') : n ≤ w.heap.size := h

theorem mergeL_any (a b g h : Value) (w : World) : Calls Try.prog 14 #[a, b, .nilFunc, g, h] w fun e w' => e = .returned (.tuple #[]) ∧ w = w' := by
  go_enter Try.func14, Try.ntmps14
  go_wp2
  refine bodyPost_ret (results_none rfl _ _ _) rfl ?_
  exact ⟨rfl, rfl⟩
theorem mergeR_any (a b h : Value) (f : Fn) (x y : Array Value) (w : World) : Calls Try.prog 14 #[a, b, .func f x y, .nilFunc, h] w fun e w' => e = .returned (.tuple #[]) ∧ w = w' := by
  go_enter Try.func14, Try.ntmps14
  go_wp2
  refine bodyPost_ret (results_none rfl _ _ _) rfl ?_
  exact ⟨rfl, rfl⟩
theorem mergeE_any (a b : Value) (f : Fn) (x y : Array Value) (f2 : Fn) (x2 y2 : Array Value) (w : World) : Calls Try.prog 14 #[a, b, .func f x y, .func f2 x2 y2, .nilFunc] w fun e w' => e = .returned (.tuple #[]) ∧ w = w' := by
  go_enter Try.func14, Try.ntmps14
  go_wp2
  refine bodyPost_ret (results_none rfl _ _ _) rfl ?_
  exact ⟨rfl, rfl⟩

set_option maxRecDepth 100000 in
set_option maxHeartbeats 12800000 in
theorem mergeM_any (w0 : World) (A B Aw : Option Addr) (c d g gw gr nw cw : Nat) (a : List Itm) (b : List Int) (w : World) (ha : GR.Rd itmK w0 A a) (hb : GR.Rd bytK w0 B b) (hn : ∀ y ∈ b, 0 ≤ y ∧ y ≤ 255) (hb0 : Below w0.heap.size w0 w) (hg : w0.heap.size ≤ g)
    (hw0 : GR.Blk w0 gw 24 #[.slice Aw nw cw]) (hnw : nw = (mrg a b).length) (bg0 : GR.Blk w g 24 #[.slice none 0 0]) (br0 : GR.Blk w gr 4 #[.bool true]) (la : a.length ≤ 1048576) (lb : b.length ≤ 1048576) :
    Calls Try.prog 14 #[.slice A a.length c, .slice B b.length d, .func (.func 15) #[] #[], .func (.func 16) #[] #[], .func (.func 17) #[] #[.pointer (some ⟨g, 0, none⟩), .pointer (some ⟨gw, 0, none⟩), .pointer (some ⟨gr, 0, none⟩)]] w
      fun e w' => e = .returned (.tuple #[]) ∧ (∃ v, GR.Blk w' g 24 #[v] ∧ GR.Own tldK w' w0.heap.size v (mrg a b)) ∧ GR.Blk w' gr 4 #[.bool true] ∧ Below w0.heap.size w0 w' := by
  have HA := Lib.hid ha
  have HB := Lib.hid hb
  have HN := Lib.hid hn
  have B0 := Lib.hid hb0
  have G0 := Lib.hid bg0
  have F0 := Lib.hid br0
  have BW := Lib.hid hw0
  clear ha hb hn hb0 bg0 br0 hw0
  go_enter Try.func14, Try.ntmps14
  go_wp2
  go_loopw [10, 11] (fun i0 k0 w' => ∃ (i k : Nat) (v : Value) (acc : List Tld), i ≤ a.length ∧ k ≤ b.length ∧ i0 = .int .i64 i ∧ k0 = .int .i64 k ∧ Hid (acc ++ mrg (a.drop i) (b.drop k) = mrg a b) ∧ acc.length ≤ i + k ∧ Hid (GR.Blk w' g 24 #[v]) ∧ Hid (GR.Own tldK w' w0.heap.size v acc) ∧ Hid (GR.Blk w' gr 4 #[.bool true]) ∧ Hid (Below w0.heap.size w0 w')) (fun i k _ => a.length - (intOf i).toNat + (b.length - (intOf k).toNat))
  case atStart => exact ⟨0, 0, _, [], Nat.zero_le _, Nat.zero_le _, rfl, rfl, Lib.hid (by simp), by simp, G0, Lib.hid (GR.Own.nil _ _ _), F0, B0⟩
  case round =>
    obtain ⟨i, k, v, acc, hia, hkb, rfl, rfl, hD, hal, bg, ho, br, hbl⟩ := hrel
    have HR := Lib.hid (Below.refl wr.heap.size wr)
    have HL := Lib.hid (show acc.length ≤ nw by have h9 := congrArg List.length hD.out; rw [List.length_append] at h9; rw [hnw]; omega)
    by_cases hi : i < a.length
    · by_cases hk : k < b.length
      · rcases ltK_tri a[i].key (dig b[k]) with ⟨h1, _, h2⟩ | h1 | ⟨h2, _, h1⟩
        · have HD := Lib.hid (mrg_left (b := b) (k := k) hi (.inr ⟨hk, h1⟩))
          have HC := Lib.hid (show Lib.compareBytes a[i].key.data.toList (dig b[k]).data.toList = -1 from cmpK_lt h1)
          clear h1 h2
          obtain ⟨ad, e1, k0, k1⟩ := itm_at HA.out i hi
          cases e1
          have c0 := (hbl.out.cell (World.block_lt_of_cell? w0 _ k0)).trans k0
          have c1 := (hbl.out.cell (World.block_lt_of_cell? w0 _ k1)).trans k1
          clear k0 k1
          have KA0 := Lib.hid c0
          have KA1 := Lib.hid c1
          obtain ⟨bd, e2, k0⟩ := byt_at HB.out k hk
          cases e2
          have d0 := (hbl.out.cell (World.block_lt_of_cell? w0 _ k0)).trans k0
          clear k0
          have KB0 := Lib.hid d0
          have TB := Lib.hid (HN.out _ (List.getElem_mem hk))
          have ti1 : decide ((i : Int) < (a.length : Int)) = true := by simp; omega
          have ti2 : decide (i < a.length) = true := by simp; omega
          have ti3 : ((i : Int) == (a.length : Int)) = false := by simp; omega
          have ti4 : (i == a.length) = false := by simp; omega
          have ti5 : (0 : Int) ≤ (i : Int) := by omega
          have ti6 : (i : Int) < (a.length : Int) := by omega
          have tk1 : decide ((k : Int) < (b.length : Int)) = true := by simp; omega
          have tk2 : decide (k < b.length) = true := by simp; omega
          have tk3 : ((k : Int) == (b.length : Int)) = false := by simp; omega
          have tk4 : (k == b.length) = false := by simp; omega
          have tk5 : (0 : Int) ≤ (k : Int) := by omega
          have tk6 : (k : Int) < (b.length : Int) := by omega
          go_wp2
          go_region_held3 (fun w' => w'.cell? (ad.add (i * 2)) = some (.string a[i].key) ∧ w'.cell? ⟨(ad.add (i * 2)).block, (ad.add (i * 2)).off + 1, none⟩ = some (.int .i64 a[i].n) ∧ w'.cell? (bd.add k) = some (.int .u8 b[k])) (first | go_keep | exact ⟨(HR.out.cell (World.block_lt_of_cell? wr _ KA0.out)).trans KA0.out, (HR.out.cell (World.block_lt_of_cell? wr _ KA1.out)).trans KA1.out, (HR.out.cell (World.block_lt_of_cell? wr _ KB0.out)).trans KB0.out⟩) (first | (go_at_call 15; refine (one_any _ _ _).mono ?_; rintro e w2 ⟨rfl, hb2⟩; have HN_ := Lib.hid (bl_then (w := wr) (by repeat (first | exact HR.out | refine bl_drewN ?_ _ | refine bl_drew ?_ | refine bl_alloc ?_ _)) hb2); clear hb2 HR; have HR := HN_; clear HN_) | (go_at_call 16; refine (digit_any _ _ TB.out.1 TB.out.2).mono ?_; rintro e w2 ⟨rfl, rfl⟩) | (go_at_call 53; refine (compare_any _ _ _).mono ?_; rintro e w2 ⟨rfl, rfl⟩; rw [HC.out]))
          go_wp2_with (first | (go_at_call 17; refine (tell_left w0.heap.size g gw gr _ v acc Aw nw cw _ _ a[i] HX.out HSX.out hg (bx_below bg.out (by repeat (first | exact HR.out | refine bl_drewN ?_ _ | refine bl_drew ?_ | refine bl_alloc ?_ _))) (bx_below (BW.out.below hbl.out BW.out.lt) (by repeat (first | exact HR.out | refine bl_drewN ?_ _ | refine bl_drew ?_ | refine bl_alloc ?_ _))) (bx_below br.out (by repeat (first | exact HR.out | refine bl_drewN ?_ _ | refine bl_drew ?_ | refine bl_alloc ?_ _))) (ho.out.below (by repeat (first | exact HR.out | refine bl_drewN ?_ _ | refine bl_drew ?_ | refine bl_alloc ?_ _))) HL.out (by omega)).mono ?_; rintro e w5 ⟨rfl, ⟨v5, hb5, ho5⟩, hr5, hbl5⟩; have HE5 := Lib.hid hb5; have HO5 := Lib.hid ho5; have HF5 := Lib.hid hr5; have HB5 := Lib.hid ((bl_then hbl.out (by repeat (first | exact HR.out | refine bl_drewN ?_ _ | refine bl_drew ?_ | refine bl_alloc ?_ _))).trans hbl5); clear hb5 ho5 hr5 hbl5) | (go_at_call 15; refine (one_any _ _ _).mono ?_; rintro e w2 ⟨rfl, hb2⟩; have HX := Lib.hid (bx_new hb2); have HSX := Lib.hid (bx_sz (Nat.le_trans hbl.out.size (Below.size (w := wr) (by repeat (first | exact HR.out | refine bl_drewN ?_ _ | refine bl_drew ?_ | refine bl_alloc ?_ _)))) hb2); have HN_ := Lib.hid (bl_then (w := wr) (by repeat (first | exact HR.out | refine bl_drewN ?_ _ | refine bl_drew ?_ | refine bl_alloc ?_ _)) hb2); clear hb2 HR; have HR := HN_; clear HN_))
          go_roundw
          case rel => exact ⟨i + 1, k, _, acc ++ [⟨a[i].key, 1, a[i].key, a[i].n, 0⟩], by omega, by omega, by go_num, rfl, Lib.hid (by have := HD.out; rw [← hD.out, this]; try simp), by first | omega | (simp; omega), HE5, HO5, HF5, HB5⟩
          case measure => simp [intOf]; omega
        · have s1 : ltK a[i].key (dig b[k]) = false := by rw [h1, ltK_irrefl]
          have s2 : ltK (dig b[k]) a[i].key = false := by rw [h1, ltK_irrefl]
          have HC := Lib.hid (show Lib.compareBytes a[i].key.data.toList (dig b[k]).data.toList = 0 by rw [h1]; exact cmpK_self _)
          have HD := Lib.hid (show mrg (a.drop i) (b.drop k) = ⟨dig b[k], 3, a[i].key, a[i].n, b[k]⟩ :: mrg (a.drop (i + 1)) (b.drop (k + 1)) by rw [mrg_both hi hk s1 s2, ← h1])
          clear h1 s1 s2
          obtain ⟨ad, e1, k0, k1⟩ := itm_at HA.out i hi
          cases e1
          have c0 := (hbl.out.cell (World.block_lt_of_cell? w0 _ k0)).trans k0
          have c1 := (hbl.out.cell (World.block_lt_of_cell? w0 _ k1)).trans k1
          clear k0 k1
          have KA0 := Lib.hid c0
          have KA1 := Lib.hid c1
          obtain ⟨bd, e2, k0⟩ := byt_at HB.out k hk
          cases e2
          have d0 := (hbl.out.cell (World.block_lt_of_cell? w0 _ k0)).trans k0
          clear k0
          have KB0 := Lib.hid d0
          have TB := Lib.hid (HN.out _ (List.getElem_mem hk))
          have ti1 : decide ((i : Int) < (a.length : Int)) = true := by simp; omega
          have ti2 : decide (i < a.length) = true := by simp; omega
          have ti3 : ((i : Int) == (a.length : Int)) = false := by simp; omega
          have ti4 : (i == a.length) = false := by simp; omega
          have ti5 : (0 : Int) ≤ (i : Int) := by omega
          have ti6 : (i : Int) < (a.length : Int) := by omega
          have tk1 : decide ((k : Int) < (b.length : Int)) = true := by simp; omega
          have tk2 : decide (k < b.length) = true := by simp; omega
          have tk3 : ((k : Int) == (b.length : Int)) = false := by simp; omega
          have tk4 : (k == b.length) = false := by simp; omega
          have tk5 : (0 : Int) ≤ (k : Int) := by omega
          have tk6 : (k : Int) < (b.length : Int) := by omega
          go_wp2
          go_region_held3 (fun w' => w'.cell? (ad.add (i * 2)) = some (.string a[i].key) ∧ w'.cell? ⟨(ad.add (i * 2)).block, (ad.add (i * 2)).off + 1, none⟩ = some (.int .i64 a[i].n) ∧ w'.cell? (bd.add k) = some (.int .u8 b[k])) (first | go_keep | exact ⟨(HR.out.cell (World.block_lt_of_cell? wr _ KA0.out)).trans KA0.out, (HR.out.cell (World.block_lt_of_cell? wr _ KA1.out)).trans KA1.out, (HR.out.cell (World.block_lt_of_cell? wr _ KB0.out)).trans KB0.out⟩) (first | (go_at_call 15; refine (one_any _ _ _).mono ?_; rintro e w2 ⟨rfl, hb2⟩; have HN_ := Lib.hid (bl_then (w := wr) (by repeat (first | exact HR.out | refine bl_drewN ?_ _ | refine bl_drew ?_ | refine bl_alloc ?_ _)) hb2); clear hb2 HR; have HR := HN_; clear HN_) | (go_at_call 16; refine (digit_any _ _ TB.out.1 TB.out.2).mono ?_; rintro e w2 ⟨rfl, rfl⟩) | (go_at_call 53; refine (compare_any _ _ _).mono ?_; rintro e w2 ⟨rfl, rfl⟩; rw [HC.out]))
          go_wp2_with (first | (go_at_call 17; refine (tell_both w0.heap.size g gw gr _ v acc Aw nw cw _ _ a[i] (HX.out.alloc _) HSX.out _ b[k] (GR.Blk.new _ _ _) (Nat.le_trans hbl.out.size (Below.size (w := wr) (by repeat (first | exact Below.refl _ _ | exact HR.out | refine bl_drewN ?_ _ | refine bl_drew ?_ | refine bl_alloc ?_ _)))) hg (bx_below bg.out (by repeat (first | exact HR.out | refine bl_drewN ?_ _ | refine bl_drew ?_ | refine bl_alloc ?_ _))) (bx_below (BW.out.below hbl.out BW.out.lt) (by repeat (first | exact HR.out | refine bl_drewN ?_ _ | refine bl_drew ?_ | refine bl_alloc ?_ _))) (bx_below br.out (by repeat (first | exact HR.out | refine bl_drewN ?_ _ | refine bl_drew ?_ | refine bl_alloc ?_ _))) (ho.out.below (by repeat (first | exact HR.out | refine bl_drewN ?_ _ | refine bl_drew ?_ | refine bl_alloc ?_ _))) HL.out (by omega)).mono ?_; rintro e w5 ⟨rfl, ⟨v5, hb5, ho5⟩, hr5, hbl5⟩; have HE5 := Lib.hid hb5; have HO5 := Lib.hid ho5; have HF5 := Lib.hid hr5; have HB5 := Lib.hid ((bl_then hbl.out (by repeat (first | exact HR.out | refine bl_drewN ?_ _ | refine bl_drew ?_ | refine bl_alloc ?_ _))).trans hbl5); clear hb5 ho5 hr5 hbl5) | (go_at_call 16; refine (digit_any _ _ TB.out.1 TB.out.2).mono ?_; rintro e w2 ⟨rfl, rfl⟩) | (go_at_call 15; refine (one_any _ _ _).mono ?_; rintro e w2 ⟨rfl, hb2⟩; have HX := Lib.hid (bx_new hb2); have HSX := Lib.hid (bx_sz (Nat.le_trans hbl.out.size (Below.size (w := wr) (by repeat (first | exact HR.out | refine bl_drewN ?_ _ | refine bl_drew ?_ | refine bl_alloc ?_ _)))) hb2); have HN_ := Lib.hid (bl_then (w := wr) (by repeat (first | exact HR.out | refine bl_drewN ?_ _ | refine bl_drew ?_ | refine bl_alloc ?_ _)) hb2); clear hb2 HR; have HR := HN_; clear HN_; have y0 := (HR.out.cell (World.block_lt_of_cell? wr _ KB0.out)).trans KB0.out))
          go_roundw
          case rel => exact ⟨i + 1, k + 1, _, acc ++ [⟨dig b[k], 3, a[i].key, a[i].n, b[k]⟩], by omega, by omega, by go_num, by go_num, Lib.hid (by have := HD.out; rw [← hD.out, this]; try simp), by first | omega | (simp; omega), HE5, HO5, HF5, HB5⟩
          case measure => simp [intOf]; omega
        · have HD := Lib.hid (mrg_right hk (.inr ⟨hi, h1, h2⟩))
          have HC := Lib.hid (show Lib.compareBytes a[i].key.data.toList (dig b[k]).data.toList = 1 from cmpK_gt h2)
          clear h1 h2
          obtain ⟨ad, e1, k0, k1⟩ := itm_at HA.out i hi
          cases e1
          have c0 := (hbl.out.cell (World.block_lt_of_cell? w0 _ k0)).trans k0
          have c1 := (hbl.out.cell (World.block_lt_of_cell? w0 _ k1)).trans k1
          clear k0 k1
          have KA0 := Lib.hid c0
          have KA1 := Lib.hid c1
          obtain ⟨bd, e2, k0⟩ := byt_at HB.out k hk
          cases e2
          have d0 := (hbl.out.cell (World.block_lt_of_cell? w0 _ k0)).trans k0
          clear k0
          have KB0 := Lib.hid d0
          have TB := Lib.hid (HN.out _ (List.getElem_mem hk))
          have ti1 : decide ((i : Int) < (a.length : Int)) = true := by simp; omega
          have ti2 : decide (i < a.length) = true := by simp; omega
          have ti3 : ((i : Int) == (a.length : Int)) = false := by simp; omega
          have ti4 : (i == a.length) = false := by simp; omega
          have ti5 : (0 : Int) ≤ (i : Int) := by omega
          have ti6 : (i : Int) < (a.length : Int) := by omega
          have tk1 : decide ((k : Int) < (b.length : Int)) = true := by simp; omega
          have tk2 : decide (k < b.length) = true := by simp; omega
          have tk3 : ((k : Int) == (b.length : Int)) = false := by simp; omega
          have tk4 : (k == b.length) = false := by simp; omega
          have tk5 : (0 : Int) ≤ (k : Int) := by omega
          have tk6 : (k : Int) < (b.length : Int) := by omega
          go_wp2
          go_region_held3 (fun w' => w'.cell? (ad.add (i * 2)) = some (.string a[i].key) ∧ w'.cell? ⟨(ad.add (i * 2)).block, (ad.add (i * 2)).off + 1, none⟩ = some (.int .i64 a[i].n) ∧ w'.cell? (bd.add k) = some (.int .u8 b[k])) (first | go_keep | exact ⟨(HR.out.cell (World.block_lt_of_cell? wr _ KA0.out)).trans KA0.out, (HR.out.cell (World.block_lt_of_cell? wr _ KA1.out)).trans KA1.out, (HR.out.cell (World.block_lt_of_cell? wr _ KB0.out)).trans KB0.out⟩) (first | (go_at_call 15; refine (one_any _ _ _).mono ?_; rintro e w2 ⟨rfl, hb2⟩; have HN_ := Lib.hid (bl_then (w := wr) (by repeat (first | exact HR.out | refine bl_drewN ?_ _ | refine bl_drew ?_ | refine bl_alloc ?_ _)) hb2); clear hb2 HR; have HR := HN_; clear HN_) | (go_at_call 16; refine (digit_any _ _ TB.out.1 TB.out.2).mono ?_; rintro e w2 ⟨rfl, rfl⟩) | (go_at_call 53; refine (compare_any _ _ _).mono ?_; rintro e w2 ⟨rfl, rfl⟩; rw [HC.out]))
          go_wp2_with (first | (go_at_call 17; refine (tell_right w0.heap.size g gw gr _ v acc Aw nw cw _ _ b[k] (GR.Blk.new _ _ _) (Nat.le_trans hbl.out.size (Below.size (w := wr) (by repeat (first | exact Below.refl _ _ | exact HR.out | refine bl_drewN ?_ _ | refine bl_drew ?_ | refine bl_alloc ?_ _)))) hg (bx_below bg.out (by repeat (first | exact HR.out | refine bl_drewN ?_ _ | refine bl_drew ?_ | refine bl_alloc ?_ _))) (bx_below (BW.out.below hbl.out BW.out.lt) (by repeat (first | exact HR.out | refine bl_drewN ?_ _ | refine bl_drew ?_ | refine bl_alloc ?_ _))) (bx_below br.out (by repeat (first | exact HR.out | refine bl_drewN ?_ _ | refine bl_drew ?_ | refine bl_alloc ?_ _))) (ho.out.below (by repeat (first | exact HR.out | refine bl_drewN ?_ _ | refine bl_drew ?_ | refine bl_alloc ?_ _))) HL.out (by omega)).mono ?_; rintro e w5 ⟨rfl, ⟨v5, hb5, ho5⟩, hr5, hbl5⟩; have HE5 := Lib.hid hb5; have HO5 := Lib.hid ho5; have HF5 := Lib.hid hr5; have HB5 := Lib.hid ((bl_then hbl.out (by repeat (first | exact HR.out | refine bl_drewN ?_ _ | refine bl_drew ?_ | refine bl_alloc ?_ _))).trans hbl5); clear hb5 ho5 hr5 hbl5) | (go_at_call 16; refine (digit_any _ _ TB.out.1 TB.out.2).mono ?_; rintro e w2 ⟨rfl, rfl⟩))
          go_roundw
          case rel => exact ⟨i, k + 1, _, acc ++ [⟨dig b[k], 2, ⟨#[]⟩, 0, b[k]⟩], by omega, by omega, rfl, by go_num, Lib.hid (by have := HD.out; rw [← hD.out, this]; try simp), by first | omega | (simp; omega), HE5, HO5, HF5, HB5⟩
          case measure => simp [intOf]; omega
      · have HD := Lib.hid (mrg_left (b := b) (k := k) hi (.inl (by omega)))
        obtain ⟨ad, e1, k0, k1⟩ := itm_at HA.out i hi
        cases e1
        have c0 := (hbl.out.cell (World.block_lt_of_cell? w0 _ k0)).trans k0
        have c1 := (hbl.out.cell (World.block_lt_of_cell? w0 _ k1)).trans k1
        clear k0 k1
        have KA0 := Lib.hid c0
        have KA1 := Lib.hid c1
        have ti1 : decide ((i : Int) < (a.length : Int)) = true := by simp; omega
        have ti2 : decide (i < a.length) = true := by simp; omega
        have ti3 : ((i : Int) == (a.length : Int)) = false := by simp; omega
        have ti4 : (i == a.length) = false := by simp; omega
        have ti5 : (0 : Int) ≤ (i : Int) := by omega
        have ti6 : (i : Int) < (a.length : Int) := by omega
        have tk1 : decide ((k : Int) < (b.length : Int)) = false := by simp; omega
        have tk2 : decide (k < b.length) = false := by simp; omega
        have tk3 : ((k : Int) == (b.length : Int)) = true := by simp; omega
        have tk4 : (k == b.length) = true := by simp; omega
        go_wp2_with (first | (go_at_call 17; refine (tell_left w0.heap.size g gw gr _ v acc Aw nw cw _ _ a[i] HX.out HSX.out hg (bx_below bg.out (by repeat (first | exact HR.out | refine bl_drewN ?_ _ | refine bl_drew ?_ | refine bl_alloc ?_ _))) (bx_below (BW.out.below hbl.out BW.out.lt) (by repeat (first | exact HR.out | refine bl_drewN ?_ _ | refine bl_drew ?_ | refine bl_alloc ?_ _))) (bx_below br.out (by repeat (first | exact HR.out | refine bl_drewN ?_ _ | refine bl_drew ?_ | refine bl_alloc ?_ _))) (ho.out.below (by repeat (first | exact HR.out | refine bl_drewN ?_ _ | refine bl_drew ?_ | refine bl_alloc ?_ _))) HL.out (by omega)).mono ?_; rintro e w5 ⟨rfl, ⟨v5, hb5, ho5⟩, hr5, hbl5⟩; have HE5 := Lib.hid hb5; have HO5 := Lib.hid ho5; have HF5 := Lib.hid hr5; have HB5 := Lib.hid ((bl_then hbl.out (by repeat (first | exact HR.out | refine bl_drewN ?_ _ | refine bl_drew ?_ | refine bl_alloc ?_ _))).trans hbl5); clear hb5 ho5 hr5 hbl5) | (go_at_call 15; refine (one_any _ _ _).mono ?_; rintro e w2 ⟨rfl, hb2⟩; have HX := Lib.hid (bx_new hb2); have HSX := Lib.hid (bx_sz (Nat.le_trans hbl.out.size (Below.size (w := wr) (by repeat (first | exact HR.out | refine bl_drewN ?_ _ | refine bl_drew ?_ | refine bl_alloc ?_ _)))) hb2); have HN_ := Lib.hid (bl_then (w := wr) (by repeat (first | exact HR.out | refine bl_drewN ?_ _ | refine bl_drew ?_ | refine bl_alloc ?_ _)) hb2); clear hb2 HR; have HR := HN_; clear HN_))
        go_roundw
        case rel => exact ⟨i + 1, k, _, acc ++ [⟨a[i].key, 1, a[i].key, a[i].n, 0⟩], by omega, by omega, by go_num, rfl, Lib.hid (by have := HD.out; rw [← hD.out, this]; try simp), by first | omega | (simp; omega), HE5, HO5, HF5, HB5⟩
        case measure => simp [intOf]; omega
    · by_cases hk : k < b.length
      · have HD := Lib.hid (mrg_right (a := a) (i := i) hk (.inl (by omega)))
        obtain ⟨bd, e2, k0⟩ := byt_at HB.out k hk
        cases e2
        have d0 := (hbl.out.cell (World.block_lt_of_cell? w0 _ k0)).trans k0
        clear k0
        have KB0 := Lib.hid d0
        have TB := Lib.hid (HN.out _ (List.getElem_mem hk))
        have ti1 : decide ((i : Int) < (a.length : Int)) = false := by simp; omega
        have ti2 : decide (i < a.length) = false := by simp; omega
        have ti3 : ((i : Int) == (a.length : Int)) = true := by simp; omega
        have ti4 : (i == a.length) = true := by simp; omega
        have tk1 : decide ((k : Int) < (b.length : Int)) = true := by simp; omega
        have tk2 : decide (k < b.length) = true := by simp; omega
        have tk3 : ((k : Int) == (b.length : Int)) = false := by simp; omega
        have tk4 : (k == b.length) = false := by simp; omega
        have tk5 : (0 : Int) ≤ (k : Int) := by omega
        have tk6 : (k : Int) < (b.length : Int) := by omega
        go_wp2_with (first | (go_at_call 17; refine (tell_right w0.heap.size g gw gr _ v acc Aw nw cw _ _ b[k] (GR.Blk.new _ _ _) (Nat.le_trans hbl.out.size (Below.size (w := wr) (by repeat (first | exact Below.refl _ _ | exact HR.out | refine bl_drewN ?_ _ | refine bl_drew ?_ | refine bl_alloc ?_ _)))) hg (bx_below bg.out (by repeat (first | exact HR.out | refine bl_drewN ?_ _ | refine bl_drew ?_ | refine bl_alloc ?_ _))) (bx_below (BW.out.below hbl.out BW.out.lt) (by repeat (first | exact HR.out | refine bl_drewN ?_ _ | refine bl_drew ?_ | refine bl_alloc ?_ _))) (bx_below br.out (by repeat (first | exact HR.out | refine bl_drewN ?_ _ | refine bl_drew ?_ | refine bl_alloc ?_ _))) (ho.out.below (by repeat (first | exact HR.out | refine bl_drewN ?_ _ | refine bl_drew ?_ | refine bl_alloc ?_ _))) HL.out (by omega)).mono ?_; rintro e w5 ⟨rfl, ⟨v5, hb5, ho5⟩, hr5, hbl5⟩; have HE5 := Lib.hid hb5; have HO5 := Lib.hid ho5; have HF5 := Lib.hid hr5; have HB5 := Lib.hid ((bl_then hbl.out (by repeat (first | exact HR.out | refine bl_drewN ?_ _ | refine bl_drew ?_ | refine bl_alloc ?_ _))).trans hbl5); clear hb5 ho5 hr5 hbl5) | (go_at_call 16; refine (digit_any _ _ TB.out.1 TB.out.2).mono ?_; rintro e w2 ⟨rfl, rfl⟩))
        go_roundw
        case rel => exact ⟨i, k + 1, _, acc ++ [⟨dig b[k], 2, ⟨#[]⟩, 0, b[k]⟩], by omega, by omega, rfl, by go_num, Lib.hid (by have := HD.out; rw [← hD.out, this]; try simp), by first | omega | (simp; omega), HE5, HO5, HF5, HB5⟩
        case measure => simp [intOf]; omega
      · have HE := Lib.hid (show mrg a b = acc by
          have := hD.out
          rw [List.drop_eq_nil_of_le (by omega), List.drop_eq_nil_of_le (by omega), mrg_end, List.append_nil] at this
          rw [this])
        have ti1 : decide ((i : Int) < (a.length : Int)) = false := by simp; omega
        have ti2 : decide (i < a.length) = false := by simp; omega
        have ti3 : ((i : Int) == (a.length : Int)) = true := by simp; omega
        have ti4 : (i == a.length) = true := by simp; omega
        have tk1 : decide ((k : Int) < (b.length : Int)) = false := by simp; omega
        have tk2 : decide (k < b.length) = false := by simp; omega
        have tk3 : ((k : Int) == (b.length : Int)) = true := by simp; omega
        have tk4 : (k == b.length) = true := by simp; omega
        go_wp2
        go_end0
        exact ⟨rfl, ⟨v, bg.out, by rw [HE.out]; exact ho.out⟩, br.out, hbl.out⟩
end Go.Proofs.Ytejodabmddcanaa
