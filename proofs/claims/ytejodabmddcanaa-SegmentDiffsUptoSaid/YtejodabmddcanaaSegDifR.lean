/- DERIVED. Diff: the document's text. -/
import Derived.Test.YtejodabmddcanaaSegDif
import Derived.Test.YtejodabmddcanaaSegPutR
import Derived.Deep.RegionHeld3
namespace Go.Proofs.Ytejodabmddcanaa
open Go.RowKit

set_option maxRecDepth 100000 in
set_option maxHeartbeats 12800000 in
theorem refDiff_any (A B : Option Addr) (c d : Nat) (a b : List Ent) (w : World) (ha : Rd w A a) (hb : Rd w B b) (la : a.length ≤ 1048576) (lb : b.length ≤ 1048576) :
    Calls Try.prog 28 #[.slice A a.length c, .slice B b.length d] w fun e w' => ∃ v, e = .returned (.tuple #[v, .int .i64 (difE a b)]) ∧ GR.Own difK w' w.heap.size v (difA a b) ∧ Below w.heap.size w w' := by
  obtain ⟨i0, hi0, hz0, hz1, hz2⟩ := info_parts dif_info
  have HA := Lib.hid ha
  have HB := Lib.hid hb
  clear ha hb
  by_cases h1 : listB a = true
  · by_cases h2 : listB b = true
    · go_enter Try.func28, Try.ntmps28
      go_wp2_with fail
      refine (refList_any _ _ _ _ HA.out).mono ?_
      rintro e w1 ⟨rfl, hd1⟩
      rw [h1]
      have D1 := Lib.hid hd1
      clear hd1
      go_wp2_with fail
      refine (refList_any _ _ _ _ (D1.out.rd HB.out)).mono ?_
      rintro e w2 ⟨rfl, hd2⟩
      rw [h2]
      have BL2 := Lib.hid ((D1.out.trans hd2).below w.heap.size)
      clear hd2 D1
      go_wp2
      go_loopw [6, 7, 8] (fun v0 i0 k0 w' => ∃ (v : Value) (i k : Nat) (acc : List Dif), v = v0 ∧ i ≤ a.length ∧ k ≤ b.length ∧ i0 = .int .i64 i ∧ k0 = .int .i64 k ∧ Hid (acc ++ dif (a.drop i) (b.drop k) = dif a b) ∧ acc.length ≤ i + k ∧ Hid (GR.Own difK w' w.heap.size v acc) ∧ Hid (Below w.heap.size w w')) (fun _ i k _ => a.length - (intOf i).toNat + (b.length - (intOf k).toNat))
      case atStart => exact ⟨_, 0, 0, [], rfl, Nat.zero_le _, Nat.zero_le _, rfl, rfl, Lib.hid (by simp), by simp, Lib.hid (GR.Own.nil _ _ _), BL2⟩
      case round =>
        obtain ⟨v, i, k, acc, rfl, hia, hkb, rfl, rfl, hD, hal, ho, hbl⟩ := hrel
        have hsz := hbl.out.size
        by_cases hi : i < a.length
        · by_cases hk : k < b.length
          · rcases ltK_tri a[i].key b[k].key with ⟨h1, _, h2⟩ | h1 | ⟨h2, _, h1⟩
            · have HD := Lib.hid (dif_left (b := b) (k := k) hi (.inr ⟨hk, h1⟩))
              obtain ⟨ad, e1, k0, k1⟩ := HA.out.at_ i hi
              cases e1
              have c0 := (hbl.out.cell (World.block_lt_of_cell? w _ k0)).trans k0
              have c1 := (hbl.out.cell (World.block_lt_of_cell? w _ k1)).trans k1
              have KA0 := Lib.hid k0
              have KA1 := Lib.hid k1
              clear k0 k1
              obtain ⟨bd, e2, k0, k1⟩ := HB.out.at_ k hk
              cases e2
              have d0 := (hbl.out.cell (World.block_lt_of_cell? w _ k0)).trans k0
              have d1 := (hbl.out.cell (World.block_lt_of_cell? w _ k1)).trans k1
              have KB0 := Lib.hid k0
              have KB1 := Lib.hid k1
              clear k0 k1
              have g1 : Op.bytesLess a[i].key.toList b[k].key.toList = true := by rw [toList_eq, toList_eq]; exact h1
              clear h1 h2
              have ti1 : decide ((i : Int) < (a.length : Int)) = true := by simp; omega
              have ti2 : decide (i < a.length) = true := by simp; omega
              have ti3 : decide ((a.length : Int) ≤ (i : Int)) = false := by simp; omega
              have ti4 : decide (a.length ≤ i) = false := by simp; omega
              have ti5 : (0 : Int) ≤ (i : Int) := by omega
              have ti6 : (i : Int) < (a.length : Int) := by omega
              have tk1 : decide ((k : Int) < (b.length : Int)) = true := by simp; omega
              have tk2 : decide (k < b.length) = true := by simp; omega
              have tk3 : decide ((b.length : Int) ≤ (k : Int)) = false := by simp; omega
              have tk4 : decide (b.length ≤ k) = false := by simp; omega
              have tk5 : (0 : Int) ≤ (k : Int) := by omega
              have tk6 : (k : Int) < (b.length : Int) := by omega
              go_wp2
              go_quiet (fail)
              go_wp2
              go_region_held3 (fun w' => w'.cell? (ad.add (i * 2)) = some (.string a[i].key) ∧ w'.cell? ⟨(ad.add (i * 2)).block, (ad.add (i * 2)).off + 1, none⟩ = some (.string a[i].sum)) (first | go_keep | exact ⟨(HB3.out.cell (World.block_lt_of_cell? w _ KA0.out)).trans KA0.out, (HB3.out.cell (World.block_lt_of_cell? w _ KA1.out)).trans KA1.out⟩) ((refine GR.step_one (K := difK) rfl (.tmp 85) (.tmp 97) _ rfl Try.underlying44 hi0 hz0 hz1 hz2 rfl w.heap.size _ acc (⟨a[i].key, a[i].sum, em⟩) rfl (by repeat (first | exact ho.out | refine GR.Own.drewN ?_ _ | refine GR.Own.drew ?_ | refine GR.Own.alloc ?_ _)) _ rfl (by repeat (first | exact GR.rd_new _ rfl (by show 48 ≤ 140737488355328; omega) | refine GR.Rd.drewN ?_ _ | refine GR.Rd.drew ?_)) (by show (acc.length + 1) * 48 ≤ _; omega) (by simp; omega) ?_; intro v3 w3 ho_ hg_ hat_; have HO3 := Lib.hid ho_; have HB3 := Lib.hid (bl_of_grown (w := w) (by repeat (first | exact hbl.out | refine bl_drewN ?_ _ | refine bl_drew ?_ | refine bl_alloc ?_ _)) hg_ (fun b hb => (ho.out.lt b hb).1)); clear ho_ hg_ hat_))
              go_wp2
              go_roundw
              case rel => exact ⟨_, i + 1, k, acc ++ [⟨a[i].key, a[i].sum, em⟩], rfl, by omega, by omega, by go_num, rfl, Lib.hid (by first | (have := HD.out; rw [← hD.out, this]; simp) | (have := HD.out; rw [← hD.out, this])), by first | (simp; omega) | omega, HO3, HB3⟩
              case measure => simp [intOf]; omega
            · have s1 : ltK a[i].key b[k].key = false := by rw [h1, ltK_irrefl]
              have s2 : ltK b[k].key a[i].key = false := by rw [h1, ltK_irrefl]
              obtain ⟨ad, e1, k0, k1⟩ := HA.out.at_ i hi
              cases e1
              have c0 := (hbl.out.cell (World.block_lt_of_cell? w _ k0)).trans k0
              have c1 := (hbl.out.cell (World.block_lt_of_cell? w _ k1)).trans k1
              have KA0 := Lib.hid k0
              have KA1 := Lib.hid k1
              clear k0 k1
              obtain ⟨bd, e2, k0, k1⟩ := HB.out.at_ k hk
              cases e2
              have d0 := (hbl.out.cell (World.block_lt_of_cell? w _ k0)).trans k0
              have d1 := (hbl.out.cell (World.block_lt_of_cell? w _ k1)).trans k1
              have KB0 := Lib.hid k0
              have KB1 := Lib.hid k1
              clear k0 k1
              have g1 : Op.bytesLess a[i].key.toList b[k].key.toList = false := by rw [toList_eq, toList_eq]; exact s1
              have g2 : Op.bytesLess b[k].key.toList a[i].key.toList = false := by rw [toList_eq, toList_eq]; exact s2
              by_cases hs : a[i].sum = b[k].sum
              · have HD := Lib.hid (dif_same hi hk s1 s2 hs)
                have g3 : (a[i].sum.toList == b[k].sum.toList) = true := by rw [str_eq]; simpa using hs
                clear h1 s1 s2 hs
                have ti1 : decide ((i : Int) < (a.length : Int)) = true := by simp; omega
                have ti2 : decide (i < a.length) = true := by simp; omega
                have ti3 : decide ((a.length : Int) ≤ (i : Int)) = false := by simp; omega
                have ti4 : decide (a.length ≤ i) = false := by simp; omega
                have ti5 : (0 : Int) ≤ (i : Int) := by omega
                have ti6 : (i : Int) < (a.length : Int) := by omega
                have tk1 : decide ((k : Int) < (b.length : Int)) = true := by simp; omega
                have tk2 : decide (k < b.length) = true := by simp; omega
                have tk3 : decide ((b.length : Int) ≤ (k : Int)) = false := by simp; omega
                have tk4 : decide (b.length ≤ k) = false := by simp; omega
                have tk5 : (0 : Int) ≤ (k : Int) := by omega
                have tk6 : (k : Int) < (b.length : Int) := by omega
                go_wp2
                go_quiet (fail)
                go_wp2
                go_quiet (fail)
                go_wp2
                go_quiet (fail)
                go_wp2
                go_roundw
                case rel => exact ⟨_, i + 1, k + 1, acc, rfl, by omega, by omega, by go_num, by go_num, Lib.hid (by first | (have := HD.out; rw [← hD.out, this]; simp) | (have := HD.out; rw [← hD.out, this])), by first | (simp; omega) | omega, Lib.hid (ho.out.drewN _), Lib.hid (bl_drewN hbl.out _)⟩
                case measure => simp [intOf]; omega
              · have HD := Lib.hid (dif_both hi hk s1 s2 hs)
                have g3 : (a[i].sum.toList == b[k].sum.toList) = false := by rw [str_eq]; simpa using hs
                clear h1 s1 s2 hs
                have ti1 : decide ((i : Int) < (a.length : Int)) = true := by simp; omega
                have ti2 : decide (i < a.length) = true := by simp; omega
                have ti3 : decide ((a.length : Int) ≤ (i : Int)) = false := by simp; omega
                have ti4 : decide (a.length ≤ i) = false := by simp; omega
                have ti5 : (0 : Int) ≤ (i : Int) := by omega
                have ti6 : (i : Int) < (a.length : Int) := by omega
                have tk1 : decide ((k : Int) < (b.length : Int)) = true := by simp; omega
                have tk2 : decide (k < b.length) = true := by simp; omega
                have tk3 : decide ((b.length : Int) ≤ (k : Int)) = false := by simp; omega
                have tk4 : decide (b.length ≤ k) = false := by simp; omega
                have tk5 : (0 : Int) ≤ (k : Int) := by omega
                have tk6 : (k : Int) < (b.length : Int) := by omega
                go_wp2
                go_quiet (fail)
                go_wp2
                go_quiet (fail)
                go_wp2
                go_quiet (fail)
                go_wp2
                go_region_held3 (fun w' => w'.cell? (ad.add (i * 2)) = some (.string a[i].key) ∧ w'.cell? ⟨(ad.add (i * 2)).block, (ad.add (i * 2)).off + 1, none⟩ = some (.string a[i].sum) ∧ w'.cell? ⟨(bd.add (k * 2)).block, (bd.add (k * 2)).off + 1, none⟩ = some (.string b[k].sum)) (first | go_keep | exact ⟨(HB3.out.cell (World.block_lt_of_cell? w _ KA0.out)).trans KA0.out, (HB3.out.cell (World.block_lt_of_cell? w _ KA1.out)).trans KA1.out, (HB3.out.cell (World.block_lt_of_cell? w _ KB1.out)).trans KB1.out⟩) ((refine GR.step_one (K := difK) rfl (.tmp 38) (.tmp 55) _ rfl Try.underlying44 hi0 hz0 hz1 hz2 rfl w.heap.size _ acc (⟨a[i].key, a[i].sum, b[k].sum⟩) rfl (by repeat (first | exact ho.out | refine GR.Own.drewN ?_ _ | refine GR.Own.drew ?_ | refine GR.Own.alloc ?_ _)) _ rfl (by repeat (first | exact GR.rd_new _ rfl (by show 48 ≤ 140737488355328; omega) | refine GR.Rd.drewN ?_ _ | refine GR.Rd.drew ?_)) (by show (acc.length + 1) * 48 ≤ _; omega) (by simp; omega) ?_; intro v3 w3 ho_ hg_ hat_; have HO3 := Lib.hid ho_; have HB3 := Lib.hid (bl_of_grown (w := w) (by repeat (first | exact hbl.out | refine bl_drewN ?_ _ | refine bl_drew ?_ | refine bl_alloc ?_ _)) hg_ (fun b hb => (ho.out.lt b hb).1)); clear ho_ hg_ hat_))
                go_wp2
                go_roundw
                case rel => exact ⟨_, i + 1, k + 1, acc ++ [⟨a[i].key, a[i].sum, b[k].sum⟩], rfl, by omega, by omega, by go_num, by go_num, Lib.hid (by first | (have := HD.out; rw [← hD.out, this]; simp) | (have := HD.out; rw [← hD.out, this])), by first | (simp; omega) | omega, HO3, HB3⟩
                case measure => simp [intOf]; omega
            · have HD := Lib.hid (dif_right hk (.inr ⟨hi, h1, h2⟩))
              obtain ⟨ad, e1, k0, k1⟩ := HA.out.at_ i hi
              cases e1
              have c0 := (hbl.out.cell (World.block_lt_of_cell? w _ k0)).trans k0
              have c1 := (hbl.out.cell (World.block_lt_of_cell? w _ k1)).trans k1
              have KA0 := Lib.hid k0
              have KA1 := Lib.hid k1
              clear k0 k1
              obtain ⟨bd, e2, k0, k1⟩ := HB.out.at_ k hk
              cases e2
              have d0 := (hbl.out.cell (World.block_lt_of_cell? w _ k0)).trans k0
              have d1 := (hbl.out.cell (World.block_lt_of_cell? w _ k1)).trans k1
              have KB0 := Lib.hid k0
              have KB1 := Lib.hid k1
              clear k0 k1
              have g1 : Op.bytesLess a[i].key.toList b[k].key.toList = false := by rw [toList_eq, toList_eq]; exact h1
              have g2 : Op.bytesLess b[k].key.toList a[i].key.toList = true := by rw [toList_eq, toList_eq]; exact h2
              clear h1 h2
              have ti1 : decide ((i : Int) < (a.length : Int)) = true := by simp; omega
              have ti2 : decide (i < a.length) = true := by simp; omega
              have ti3 : decide ((a.length : Int) ≤ (i : Int)) = false := by simp; omega
              have ti4 : decide (a.length ≤ i) = false := by simp; omega
              have ti5 : (0 : Int) ≤ (i : Int) := by omega
              have ti6 : (i : Int) < (a.length : Int) := by omega
              have tk1 : decide ((k : Int) < (b.length : Int)) = true := by simp; omega
              have tk2 : decide (k < b.length) = true := by simp; omega
              have tk3 : decide ((b.length : Int) ≤ (k : Int)) = false := by simp; omega
              have tk4 : decide (b.length ≤ k) = false := by simp; omega
              have tk5 : (0 : Int) ≤ (k : Int) := by omega
              have tk6 : (k : Int) < (b.length : Int) := by omega
              go_wp2
              go_quiet (fail)
              go_wp2
              go_quiet (fail)
              go_wp2
              go_region_held3 (fun w' => w'.cell? (bd.add (k * 2)) = some (.string b[k].key) ∧ w'.cell? ⟨(bd.add (k * 2)).block, (bd.add (k * 2)).off + 1, none⟩ = some (.string b[k].sum)) (first | go_keep | exact ⟨(HB3.out.cell (World.block_lt_of_cell? w _ KB0.out)).trans KB0.out, (HB3.out.cell (World.block_lt_of_cell? w _ KB1.out)).trans KB1.out⟩) ((refine GR.step_one (K := difK) rfl (.tmp 119) (.tmp 131) _ rfl Try.underlying44 hi0 hz0 hz1 hz2 rfl w.heap.size _ acc (⟨b[k].key, em, b[k].sum⟩) rfl (by repeat (first | exact ho.out | refine GR.Own.drewN ?_ _ | refine GR.Own.drew ?_ | refine GR.Own.alloc ?_ _)) _ rfl (by repeat (first | exact GR.rd_new _ rfl (by show 48 ≤ 140737488355328; omega) | refine GR.Rd.drewN ?_ _ | refine GR.Rd.drew ?_)) (by show (acc.length + 1) * 48 ≤ _; omega) (by simp; omega) ?_; intro v3 w3 ho_ hg_ hat_; have HO3 := Lib.hid ho_; have HB3 := Lib.hid (bl_of_grown (w := w) (by repeat (first | exact hbl.out | refine bl_drewN ?_ _ | refine bl_drew ?_ | refine bl_alloc ?_ _)) hg_ (fun b hb => (ho.out.lt b hb).1)); clear ho_ hg_ hat_))
              go_wp2
              go_roundw
              case rel => exact ⟨_, i, k + 1, acc ++ [⟨b[k].key, em, b[k].sum⟩], rfl, by omega, by omega, rfl, by go_num, Lib.hid (by first | (have := HD.out; rw [← hD.out, this]; simp) | (have := HD.out; rw [← hD.out, this])), by first | (simp; omega) | omega, HO3, HB3⟩
              case measure => simp [intOf]; omega
          · have HD := Lib.hid (dif_left (b := b) (k := k) hi (.inl (by omega)))
            obtain ⟨ad, e1, k0, k1⟩ := HA.out.at_ i hi
            cases e1
            have c0 := (hbl.out.cell (World.block_lt_of_cell? w _ k0)).trans k0
            have c1 := (hbl.out.cell (World.block_lt_of_cell? w _ k1)).trans k1
            have KA0 := Lib.hid k0
            have KA1 := Lib.hid k1
            clear k0 k1
            have ti1 : decide ((i : Int) < (a.length : Int)) = true := by simp; omega
            have ti2 : decide (i < a.length) = true := by simp; omega
            have ti3 : decide ((a.length : Int) ≤ (i : Int)) = false := by simp; omega
            have ti4 : decide (a.length ≤ i) = false := by simp; omega
            have ti5 : (0 : Int) ≤ (i : Int) := by omega
            have ti6 : (i : Int) < (a.length : Int) := by omega
            have tk1 : decide ((k : Int) < (b.length : Int)) = false := by simp; omega
            have tk2 : decide (k < b.length) = false := by simp; omega
            have tk3 : decide ((b.length : Int) ≤ (k : Int)) = true := by simp; omega
            have tk4 : decide (b.length ≤ k) = true := by simp; omega
            go_wp2
            go_quiet (fail)
            go_wp2
            go_region_held3 (fun w' => w'.cell? (ad.add (i * 2)) = some (.string a[i].key) ∧ w'.cell? ⟨(ad.add (i * 2)).block, (ad.add (i * 2)).off + 1, none⟩ = some (.string a[i].sum)) (first | go_keep | exact ⟨(HB3.out.cell (World.block_lt_of_cell? w _ KA0.out)).trans KA0.out, (HB3.out.cell (World.block_lt_of_cell? w _ KA1.out)).trans KA1.out⟩) ((refine GR.step_one (K := difK) rfl (.tmp 85) (.tmp 97) _ rfl Try.underlying44 hi0 hz0 hz1 hz2 rfl w.heap.size _ acc (⟨a[i].key, a[i].sum, em⟩) rfl (by repeat (first | exact ho.out | refine GR.Own.drewN ?_ _ | refine GR.Own.drew ?_ | refine GR.Own.alloc ?_ _)) _ rfl (by repeat (first | exact GR.rd_new _ rfl (by show 48 ≤ 140737488355328; omega) | refine GR.Rd.drewN ?_ _ | refine GR.Rd.drew ?_)) (by show (acc.length + 1) * 48 ≤ _; omega) (by simp; omega) ?_; intro v3 w3 ho_ hg_ hat_; have HO3 := Lib.hid ho_; have HB3 := Lib.hid (bl_of_grown (w := w) (by repeat (first | exact hbl.out | refine bl_drewN ?_ _ | refine bl_drew ?_ | refine bl_alloc ?_ _)) hg_ (fun b hb => (ho.out.lt b hb).1)); clear ho_ hg_ hat_))
            go_wp2
            go_roundw
            case rel => exact ⟨_, i + 1, k, acc ++ [⟨a[i].key, a[i].sum, em⟩], rfl, by omega, by omega, by go_num, rfl, Lib.hid (by first | (have := HD.out; rw [← hD.out, this]; simp) | (have := HD.out; rw [← hD.out, this])), by first | (simp; omega) | omega, HO3, HB3⟩
            case measure => simp [intOf]; omega
        · by_cases hk : k < b.length
          · have HD := Lib.hid (dif_right (a := a) (i := i) hk (.inl (by omega)))
            obtain ⟨bd, e2, k0, k1⟩ := HB.out.at_ k hk
            cases e2
            have d0 := (hbl.out.cell (World.block_lt_of_cell? w _ k0)).trans k0
            have d1 := (hbl.out.cell (World.block_lt_of_cell? w _ k1)).trans k1
            have KB0 := Lib.hid k0
            have KB1 := Lib.hid k1
            clear k0 k1
            have ti1 : decide ((i : Int) < (a.length : Int)) = false := by simp; omega
            have ti2 : decide (i < a.length) = false := by simp; omega
            have ti3 : decide ((a.length : Int) ≤ (i : Int)) = true := by simp; omega
            have ti4 : decide (a.length ≤ i) = true := by simp; omega
            have tk1 : decide ((k : Int) < (b.length : Int)) = true := by simp; omega
            have tk2 : decide (k < b.length) = true := by simp; omega
            have tk3 : decide ((b.length : Int) ≤ (k : Int)) = false := by simp; omega
            have tk4 : decide (b.length ≤ k) = false := by simp; omega
            have tk5 : (0 : Int) ≤ (k : Int) := by omega
            have tk6 : (k : Int) < (b.length : Int) := by omega
            go_wp2
            go_quiet (fail)
            go_wp2
            go_quiet (fail)
            go_wp2
            go_region_held3 (fun w' => w'.cell? (bd.add (k * 2)) = some (.string b[k].key) ∧ w'.cell? ⟨(bd.add (k * 2)).block, (bd.add (k * 2)).off + 1, none⟩ = some (.string b[k].sum)) (first | go_keep | exact ⟨(HB3.out.cell (World.block_lt_of_cell? w _ KB0.out)).trans KB0.out, (HB3.out.cell (World.block_lt_of_cell? w _ KB1.out)).trans KB1.out⟩) ((refine GR.step_one (K := difK) rfl (.tmp 119) (.tmp 131) _ rfl Try.underlying44 hi0 hz0 hz1 hz2 rfl w.heap.size _ acc (⟨b[k].key, em, b[k].sum⟩) rfl (by repeat (first | exact ho.out | refine GR.Own.drewN ?_ _ | refine GR.Own.drew ?_ | refine GR.Own.alloc ?_ _)) _ rfl (by repeat (first | exact GR.rd_new _ rfl (by show 48 ≤ 140737488355328; omega) | refine GR.Rd.drewN ?_ _ | refine GR.Rd.drew ?_)) (by show (acc.length + 1) * 48 ≤ _; omega) (by simp; omega) ?_; intro v3 w3 ho_ hg_ hat_; have HO3 := Lib.hid ho_; have HB3 := Lib.hid (bl_of_grown (w := w) (by repeat (first | exact hbl.out | refine bl_drewN ?_ _ | refine bl_drew ?_ | refine bl_alloc ?_ _)) hg_ (fun b hb => (ho.out.lt b hb).1)); clear ho_ hg_ hat_))
            go_wp2
            go_roundw
            case rel => exact ⟨_, i, k + 1, acc ++ [⟨b[k].key, em, b[k].sum⟩], rfl, by omega, by omega, rfl, by go_num, Lib.hid (by first | (have := HD.out; rw [← hD.out, this]; simp) | (have := HD.out; rw [← hD.out, this])), by first | (simp; omega) | omega, HO3, HB3⟩
            case measure => simp [intOf]; omega
          · have HE := Lib.hid (show difA a b = acc ∧ difE a b = 0 by
              refine ⟨?_, by simp [difE, h1, h2]⟩
              have := hD.out
              rw [List.drop_eq_nil_of_le (by omega), List.drop_eq_nil_of_le (by omega), dif_end, List.append_nil] at this
              rw [this]; simp [difA, h1, h2])
            have ti1 : decide ((i : Int) < (a.length : Int)) = false := by simp; omega
            have ti2 : decide (i < a.length) = false := by simp; omega
            have ti3 : decide ((a.length : Int) ≤ (i : Int)) = true := by simp; omega
            have ti4 : decide (a.length ≤ i) = true := by simp; omega
            have tk1 : decide ((k : Int) < (b.length : Int)) = false := by simp; omega
            have tk2 : decide (k < b.length) = false := by simp; omega
            have tk3 : decide ((b.length : Int) ≤ (k : Int)) = true := by simp; omega
            have tk4 : decide (b.length ≤ k) = true := by simp; omega
            go_wp2
            go_ret2
            exact ⟨_, ret_vi HE.out.2, by rw [HE.out.1]; exact ho.out, hbl.out⟩
    · have h2' : listB b = false := by simpa using h2
      have HE := Lib.hid (show difA a b = [] ∧ difE a b = 140 by simp [difA, difE, h2'])
      clear h2
      go_enter Try.func28, Try.ntmps28
      go_wp2_with fail
      refine (refList_any _ _ _ _ HA.out).mono ?_
      rintro e w1 ⟨rfl, hd1⟩
      rw [h1]
      have D1 := Lib.hid hd1
      clear hd1
      go_wp2_with fail
      refine (refList_any _ _ _ _ (D1.out.rd HB.out)).mono ?_
      rintro e w2 ⟨rfl, hd2⟩
      rw [h2']
      have BL2 := Lib.hid ((D1.out.trans hd2).below w.heap.size)
      clear hd2 D1
      go_wp2
      go_ret2
      exact ⟨_, ret_vi HE.out.2, by rw [HE.out.1]; exact GR.Own.nil _ _ _, BL2.out⟩
  · have h1' : listB a = false := by simpa using h1
    have HE := Lib.hid (show difA a b = [] ∧ difE a b = 140 by simp [difA, difE, h1'])
    clear h1
    go_enter Try.func28, Try.ntmps28
    go_wp2_with fail
    refine (refList_any _ _ _ _ HA.out).mono ?_
    rintro e w1 ⟨rfl, hd1⟩
    rw [h1']
    have BL2 := Lib.hid (hd1.below w.heap.size)
    clear hd1
    go_wp2
    go_ret2
    exact ⟨_, ret_vi HE.out.2, by rw [HE.out.1]; exact GR.Own.nil _ _ _, BL2.out⟩
end Go.Proofs.Ytejodabmddcanaa
