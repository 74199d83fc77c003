/- DERIVED. merged: what the statement itself says that Merge tells. -/
import Derived.Test.YtejodabmddcanaaMrgK
import Derived.Deep.RegionHeld3
namespace Go.Proofs.Ytejodabmddcanaa
open Go.RowKit

set_option maxRecDepth 100000 in
set_option maxHeartbeats 12800000 in
theorem merged_any (A B : Option Addr) (c d : Nat) (a : List Itm) (b : List Int) (w : World) (ha : GR.Rd itmK w A a) (hb : GR.Rd bytK w B b) (hn : ∀ y ∈ b, 0 ≤ y ∧ y ≤ 255) (la : a.length ≤ 1048576) (lb : b.length ≤ 1048576) :
    Calls Try.prog 13 #[.slice A a.length c, .slice B b.length d] w fun e w' => ∃ v, e = .returned v ∧ GR.Own tldK w' w.heap.size v (mrg a b) ∧ Below w.heap.size w w' := by
  obtain ⟨i0, hi0, hz0, hz1, hz2⟩ := info_parts' tld_info
  have HA := Lib.hid ha
  have HB := Lib.hid hb
  have HN := Lib.hid hn
  clear ha hb hn
  go_enter Try.func13, Try.ntmps13
  go_wp2
  go_loopw [5, 6, 7] (fun v0 i0 k0 w' => ∃ (v : Value) (i k : Nat) (acc : List Tld), v = v0 ∧ i ≤ a.length ∧ k ≤ b.length ∧ i0 = .int .i64 i ∧ k0 = .int .i64 k ∧ Hid (acc ++ mrg (a.drop i) (b.drop k) = mrg a b) ∧ acc.length ≤ i + k ∧ Hid (GR.Own tldK w' w.heap.size v acc) ∧ Hid (Below w.heap.size w w')) (fun _ i k _ => a.length - (intOf i).toNat + (b.length - (intOf k).toNat))
  case atStart => exact ⟨_, 0, 0, [], rfl, Nat.zero_le _, Nat.zero_le _, rfl, rfl, Lib.hid (by simp), by simp, Lib.hid (GR.Own.nil _ _ _), Lib.hid (Below.refl _ _)⟩
  case round =>
    obtain ⟨v, i, k, acc, rfl, hia, hkb, rfl, rfl, hD, hal, ho, hbl⟩ := hrel
    have hsz := hbl.out.size
    by_cases hi : i < a.length
    · by_cases hk : k < b.length
      · rcases ltK_tri a[i].key (dig b[k]) with ⟨h1, _, h2⟩ | h1 | ⟨h2, _, h1⟩
        · have HD := Lib.hid (mrg_left (b := b) (k := k) hi (.inr ⟨hk, h1⟩))
          obtain ⟨ad, rfl, k0, k1⟩ := itm_at HA.out i hi
          have c0 := (hbl.out.cell (World.block_lt_of_cell? w _ k0)).trans k0
          have c1 := (hbl.out.cell (World.block_lt_of_cell? w _ k1)).trans k1
          have KA0 := Lib.hid k0
          have KA1 := Lib.hid k1
          clear k0 k1
          obtain ⟨bd, rfl, k0⟩ := byt_at HB.out k hk
          have d0 := (hbl.out.cell (World.block_lt_of_cell? w _ k0)).trans k0
          have KB0 := Lib.hid k0
          clear k0
          have tb := HN.out _ (List.getElem_mem hk)
          have g1 : Op.bytesLess a[i].key.toList (dig b[k]).toList = true := by rw [toList_eq, toList_eq]; exact h1
          clear h1 h2
          have ti1 : decide ((i : Int) < (a.length : Int)) = true := by simp; omega
          have ti2 : decide (i < a.length) = true := by simp; omega
          have ti3 : ((i : Int) == (a.length : Int)) = false := by simp; omega
          have ti4 : (i == a.length) = false := by simp; omega
          have ti5 : (0 : Int) ≤ (i : Int) := by omega
          have ti6 : (i : Int) < (a.length : Int) := by omega
          have tk1 : decide ((k : Int) < (b.length : Int)) = true := by simp; omega
          have tk2 : decide (k < b.length) = true := by simp; omega
          have tk3 : ((k : Int) == (b.length : Int)) = false := by simp; omega
          have tk4 : (k == b.length) = false := by simp; omega
          have tk5 : (0 : Int) ≤ (k : Int) := by omega
          have tk6 : (k : Int) < (b.length : Int) := by omega
          go_wp2
          go_quiet (first | exact quiet_same (digit_any _ _ tb.1 tb.2) | exact quiet_off2 (digit_any _ _ tb.1 tb.2))
          go_wp2
          go_region_held3 (fun w' => w'.cell? (ad.add (i * 2)) = some (.string a[i].key) ∧ w'.cell? ⟨(ad.add (i * 2)).block, (ad.add (i * 2)).off + 1, none⟩ = some (.int .i64 a[i].n)) (first | go_keep | exact ⟨(HB3.out.cell (World.block_lt_of_cell? w _ KA0.out)).trans KA0.out, (HB3.out.cell (World.block_lt_of_cell? w _ KA1.out)).trans KA1.out⟩) ((refine GR.step_one (K := tldK) rfl (.tmp 63) (.tmp 74) _ rfl Try.underlying24 hi0 hz0 hz1 hz2 rfl w.heap.size _ acc (⟨a[i].key, 1, a[i].key, a[i].n, 0⟩) rfl (by repeat (first | exact ho.out | refine GR.Own.drewN ?_ _ | refine GR.Own.drew ?_ | refine GR.Own.alloc ?_ _)) _ rfl (by repeat (first | exact GR.rd_new _ rfl (by show 56 ≤ 140737488355328; omega) | refine GR.Rd.drewN ?_ _ | refine GR.Rd.drew ?_)) (by show (acc.length + 1) * 56 ≤ _; omega) (by simp; omega) ?_; intro v3 w3 ho_ hg_ hat_; have HO3 := Lib.hid ho_; have HB3 := Lib.hid (bl_of_grown (w := w) (by repeat (first | exact hbl.out | refine bl_drewN ?_ _ | refine bl_drew ?_ | refine bl_alloc ?_ _)) hg_ (fun b hb => (ho.out.lt b hb).1)); clear ho_ hg_ hat_))
          go_wp2
          go_roundw
          case rel => exact ⟨_, i + 1, k, acc ++ [⟨a[i].key, 1, a[i].key, a[i].n, 0⟩], rfl, by omega, by omega, by go_num, rfl, Lib.hid (by first | (have := HD.out; rw [← hD.out, this]; simp) | (have := HD.out; rw [← hD.out, this])), by first | (simp; omega) | omega, HO3, HB3⟩
          case measure => simp [intOf]; omega
        · have s1 : ltK a[i].key (dig b[k]) = false := by rw [h1, ltK_irrefl]
          have s2 : ltK (dig b[k]) a[i].key = false := by rw [h1, ltK_irrefl]
          obtain ⟨ad, rfl, k0, k1⟩ := itm_at HA.out i hi
          have c0 := (hbl.out.cell (World.block_lt_of_cell? w _ k0)).trans k0
          have c1 := (hbl.out.cell (World.block_lt_of_cell? w _ k1)).trans k1
          have KA0 := Lib.hid k0
          have KA1 := Lib.hid k1
          clear k0 k1
          obtain ⟨bd, rfl, k0⟩ := byt_at HB.out k hk
          have d0 := (hbl.out.cell (World.block_lt_of_cell? w _ k0)).trans k0
          have KB0 := Lib.hid k0
          clear k0
          have tb := HN.out _ (List.getElem_mem hk)
          have g1 : Op.bytesLess a[i].key.toList (dig b[k]).toList = false := by rw [toList_eq, toList_eq]; exact s1
          have g2 : Op.bytesLess (dig b[k]).toList a[i].key.toList = false := by rw [toList_eq, toList_eq]; exact s2
          have HD := Lib.hid (mrg_both hi hk s1 s2)
          clear h1 s1 s2
          have ti1 : decide ((i : Int) < (a.length : Int)) = true := by simp; omega
          have ti2 : decide (i < a.length) = true := by simp; omega
          have ti3 : ((i : Int) == (a.length : Int)) = false := by simp; omega
          have ti4 : (i == a.length) = false := by simp; omega
          have ti5 : (0 : Int) ≤ (i : Int) := by omega
          have ti6 : (i : Int) < (a.length : Int) := by omega
          have tk1 : decide ((k : Int) < (b.length : Int)) = true := by simp; omega
          have tk2 : decide (k < b.length) = true := by simp; omega
          have tk3 : ((k : Int) == (b.length : Int)) = false := by simp; omega
          have tk4 : (k == b.length) = false := by simp; omega
          have tk5 : (0 : Int) ≤ (k : Int) := by omega
          have tk6 : (k : Int) < (b.length : Int) := by omega
          go_wp2
          go_quiet (first | exact quiet_same (digit_any _ _ tb.1 tb.2) | exact quiet_off2 (digit_any _ _ tb.1 tb.2))
          go_wp2
          go_quiet (first | exact quiet_same (digit_any _ _ tb.1 tb.2) | exact quiet_off2 (digit_any _ _ tb.1 tb.2))
          go_wp2
          go_region_held3 (fun w' => w'.cell? (ad.add (i * 2)) = some (.string a[i].key) ∧ w'.cell? ⟨(ad.add (i * 2)).block, (ad.add (i * 2)).off + 1, none⟩ = some (.int .i64 a[i].n) ∧ w'.cell? (bd.add k) = some (.int .u8 b[k])) (first | go_keep | exact ⟨(HB3.out.cell (World.block_lt_of_cell? w _ KA0.out)).trans KA0.out, (HB3.out.cell (World.block_lt_of_cell? w _ KA1.out)).trans KA1.out, (HB3.out.cell (World.block_lt_of_cell? w _ KB0.out)).trans KB0.out⟩) ((refine GR.step_one (K := tldK) rfl (.tmp 18) (.tmp 33) _ rfl Try.underlying24 hi0 hz0 hz1 hz2 rfl w.heap.size _ acc (⟨a[i].key, 3, a[i].key, a[i].n, b[k]⟩) rfl (by repeat (first | exact ho.out | refine GR.Own.drewN ?_ _ | refine GR.Own.drew ?_ | refine GR.Own.alloc ?_ _)) _ rfl (by repeat (first | exact GR.rd_new _ rfl (by show 56 ≤ 140737488355328; omega) | refine GR.Rd.drewN ?_ _ | refine GR.Rd.drew ?_)) (by show (acc.length + 1) * 56 ≤ _; omega) (by simp; omega) ?_; intro v3 w3 ho_ hg_ hat_; have HO3 := Lib.hid ho_; have HB3 := Lib.hid (bl_of_grown (w := w) (by repeat (first | exact hbl.out | refine bl_drewN ?_ _ | refine bl_drew ?_ | refine bl_alloc ?_ _)) hg_ (fun b hb => (ho.out.lt b hb).1)); clear ho_ hg_ hat_))
          go_wp2
          go_roundw
          case rel => exact ⟨_, i + 1, k + 1, acc ++ [⟨a[i].key, 3, a[i].key, a[i].n, b[k]⟩], rfl, by omega, by omega, by go_num, by go_num, Lib.hid (by first | (have := HD.out; rw [← hD.out, this]; simp) | (have := HD.out; rw [← hD.out, this])), by first | (simp; omega) | omega, HO3, HB3⟩
          case measure => simp [intOf]; omega
        · have HD := Lib.hid (mrg_right hk (.inr ⟨hi, h1, h2⟩))
          obtain ⟨ad, rfl, k0, k1⟩ := itm_at HA.out i hi
          have c0 := (hbl.out.cell (World.block_lt_of_cell? w _ k0)).trans k0
          have c1 := (hbl.out.cell (World.block_lt_of_cell? w _ k1)).trans k1
          have KA0 := Lib.hid k0
          have KA1 := Lib.hid k1
          clear k0 k1
          obtain ⟨bd, rfl, k0⟩ := byt_at HB.out k hk
          have d0 := (hbl.out.cell (World.block_lt_of_cell? w _ k0)).trans k0
          have KB0 := Lib.hid k0
          clear k0
          have tb := HN.out _ (List.getElem_mem hk)
          have g1 : Op.bytesLess a[i].key.toList (dig b[k]).toList = false := by rw [toList_eq, toList_eq]; exact h1
          have g2 : Op.bytesLess (dig b[k]).toList a[i].key.toList = true := by rw [toList_eq, toList_eq]; exact h2
          clear h1 h2
          have ti1 : decide ((i : Int) < (a.length : Int)) = true := by simp; omega
          have ti2 : decide (i < a.length) = true := by simp; omega
          have ti3 : ((i : Int) == (a.length : Int)) = false := by simp; omega
          have ti4 : (i == a.length) = false := by simp; omega
          have ti5 : (0 : Int) ≤ (i : Int) := by omega
          have ti6 : (i : Int) < (a.length : Int) := by omega
          have tk1 : decide ((k : Int) < (b.length : Int)) = true := by simp; omega
          have tk2 : decide (k < b.length) = true := by simp; omega
          have tk3 : ((k : Int) == (b.length : Int)) = false := by simp; omega
          have tk4 : (k == b.length) = false := by simp; omega
          have tk5 : (0 : Int) ≤ (k : Int) := by omega
          have tk6 : (k : Int) < (b.length : Int) := by omega
          go_wp2
          go_quiet (first | exact quiet_same (digit_any _ _ tb.1 tb.2) | exact quiet_off2 (digit_any _ _ tb.1 tb.2))
          go_wp2
          go_quiet (first | exact quiet_same (digit_any _ _ tb.1 tb.2) | exact quiet_off2 (digit_any _ _ tb.1 tb.2))
          go_wp2
          go_region_held3 (fun w' => w'.cell? (bd.add k) = some (.int .u8 b[k])) (first | go_keep | exact (HB3.out.cell (World.block_lt_of_cell? w _ KB0.out)).trans KB0.out) (first | (go_at_call 16; refine (digit_any _ _ tb.1 tb.2).mono ?_; rintro e w2 ⟨rfl, rfl⟩) | (refine GR.step_one (K := tldK) rfl (.tmp 96) (.tmp 108) _ rfl Try.underlying24 hi0 hz0 hz1 hz2 rfl w.heap.size _ acc (⟨dig b[k], 2, ⟨#[]⟩, 0, b[k]⟩) rfl (by repeat (first | exact ho.out | refine GR.Own.drewN ?_ _ | refine GR.Own.drew ?_ | refine GR.Own.alloc ?_ _)) _ rfl (by repeat (first | exact GR.rd_new _ rfl (by show 56 ≤ 140737488355328; omega) | refine GR.Rd.drewN ?_ _ | refine GR.Rd.drew ?_)) (by show (acc.length + 1) * 56 ≤ _; omega) (by simp; omega) ?_; intro v3 w3 ho_ hg_ hat_; have HO3 := Lib.hid ho_; have HB3 := Lib.hid (bl_of_grown (w := w) (by repeat (first | exact hbl.out | refine bl_drewN ?_ _ | refine bl_drew ?_ | refine bl_alloc ?_ _)) hg_ (fun b hb => (ho.out.lt b hb).1)); clear ho_ hg_ hat_))
          go_wp2
          go_roundw
          case rel => exact ⟨_, i, k + 1, acc ++ [⟨dig b[k], 2, ⟨#[]⟩, 0, b[k]⟩], rfl, by omega, by omega, rfl, by go_num, Lib.hid (by first | (have := HD.out; rw [← hD.out, this]; simp) | (have := HD.out; rw [← hD.out, this])), by first | (simp; omega) | omega, HO3, HB3⟩
          case measure => simp [intOf]; omega
      · have HD := Lib.hid (mrg_left (b := b) (k := k) hi (.inl (by omega)))
        obtain ⟨ad, rfl, k0, k1⟩ := itm_at HA.out i hi
        have c0 := (hbl.out.cell (World.block_lt_of_cell? w _ k0)).trans k0
        have c1 := (hbl.out.cell (World.block_lt_of_cell? w _ k1)).trans k1
        have KA0 := Lib.hid k0
        have KA1 := Lib.hid k1
        clear k0 k1
        have ti1 : decide ((i : Int) < (a.length : Int)) = true := by simp; omega
        have ti2 : decide (i < a.length) = true := by simp; omega
        have ti3 : ((i : Int) == (a.length : Int)) = false := by simp; omega
        have ti4 : (i == a.length) = false := by simp; omega
        have ti5 : (0 : Int) ≤ (i : Int) := by omega
        have ti6 : (i : Int) < (a.length : Int) := by omega
        have tk1 : decide ((k : Int) < (b.length : Int)) = false := by simp; omega
        have tk2 : decide (k < b.length) = false := by simp; omega
        have tk3 : ((k : Int) == (b.length : Int)) = true := by simp; omega
        have tk4 : (k == b.length) = true := by simp; omega
        go_wp2
        go_quiet (fail)
        go_wp2
        go_region_held3 (fun w' => w'.cell? (ad.add (i * 2)) = some (.string a[i].key) ∧ w'.cell? ⟨(ad.add (i * 2)).block, (ad.add (i * 2)).off + 1, none⟩ = some (.int .i64 a[i].n)) (first | go_keep | exact ⟨(HB3.out.cell (World.block_lt_of_cell? w _ KA0.out)).trans KA0.out, (HB3.out.cell (World.block_lt_of_cell? w _ KA1.out)).trans KA1.out⟩) ((refine GR.step_one (K := tldK) rfl (.tmp 63) (.tmp 74) _ rfl Try.underlying24 hi0 hz0 hz1 hz2 rfl w.heap.size _ acc (⟨a[i].key, 1, a[i].key, a[i].n, 0⟩) rfl (by repeat (first | exact ho.out | refine GR.Own.drewN ?_ _ | refine GR.Own.drew ?_ | refine GR.Own.alloc ?_ _)) _ rfl (by repeat (first | exact GR.rd_new _ rfl (by show 56 ≤ 140737488355328; omega) | refine GR.Rd.drewN ?_ _ | refine GR.Rd.drew ?_)) (by show (acc.length + 1) * 56 ≤ _; omega) (by simp; omega) ?_; intro v3 w3 ho_ hg_ hat_; have HO3 := Lib.hid ho_; have HB3 := Lib.hid (bl_of_grown (w := w) (by repeat (first | exact hbl.out | refine bl_drewN ?_ _ | refine bl_drew ?_ | refine bl_alloc ?_ _)) hg_ (fun b hb => (ho.out.lt b hb).1)); clear ho_ hg_ hat_))
        go_wp2
        go_roundw
        case rel => exact ⟨_, i + 1, k, acc ++ [⟨a[i].key, 1, a[i].key, a[i].n, 0⟩], rfl, by omega, by omega, by go_num, rfl, Lib.hid (by first | (have := HD.out; rw [← hD.out, this]; simp) | (have := HD.out; rw [← hD.out, this])), by first | (simp; omega) | omega, HO3, HB3⟩
        case measure => simp [intOf]; omega
    · by_cases hk : k < b.length
      · have HD := Lib.hid (mrg_right (a := a) (i := i) hk (.inl (by omega)))
        obtain ⟨bd, rfl, k0⟩ := byt_at HB.out k hk
        have d0 := (hbl.out.cell (World.block_lt_of_cell? w _ k0)).trans k0
        have KB0 := Lib.hid k0
        clear k0
        have tb := HN.out _ (List.getElem_mem hk)
        have ti1 : decide ((i : Int) < (a.length : Int)) = false := by simp; omega
        have ti2 : decide (i < a.length) = false := by simp; omega
        have ti3 : ((i : Int) == (a.length : Int)) = true := by simp; omega
        have ti4 : (i == a.length) = true := by simp; omega
        have tk1 : decide ((k : Int) < (b.length : Int)) = true := by simp; omega
        have tk2 : decide (k < b.length) = true := by simp; omega
        have tk3 : ((k : Int) == (b.length : Int)) = false := by simp; omega
        have tk4 : (k == b.length) = false := by simp; omega
        have tk5 : (0 : Int) ≤ (k : Int) := by omega
        have tk6 : (k : Int) < (b.length : Int) := by omega
        go_wp2
        go_quiet (fail)
        go_wp2
        go_quiet (fail)
        go_wp2
        go_region_held3 (fun w' => w'.cell? (bd.add k) = some (.int .u8 b[k])) (first | go_keep | exact (HB3.out.cell (World.block_lt_of_cell? w _ KB0.out)).trans KB0.out) (first | (go_at_call 16; refine (digit_any _ _ tb.1 tb.2).mono ?_; rintro e w2 ⟨rfl, rfl⟩) | (refine GR.step_one (K := tldK) rfl (.tmp 96) (.tmp 108) _ rfl Try.underlying24 hi0 hz0 hz1 hz2 rfl w.heap.size _ acc (⟨dig b[k], 2, ⟨#[]⟩, 0, b[k]⟩) rfl (by repeat (first | exact ho.out | refine GR.Own.drewN ?_ _ | refine GR.Own.drew ?_ | refine GR.Own.alloc ?_ _)) _ rfl (by repeat (first | exact GR.rd_new _ rfl (by show 56 ≤ 140737488355328; omega) | refine GR.Rd.drewN ?_ _ | refine GR.Rd.drew ?_)) (by show (acc.length + 1) * 56 ≤ _; omega) (by simp; omega) ?_; intro v3 w3 ho_ hg_ hat_; have HO3 := Lib.hid ho_; have HB3 := Lib.hid (bl_of_grown (w := w) (by repeat (first | exact hbl.out | refine bl_drewN ?_ _ | refine bl_drew ?_ | refine bl_alloc ?_ _)) hg_ (fun b hb => (ho.out.lt b hb).1)); clear ho_ hg_ hat_))
        go_wp2
        go_roundw
        case rel => exact ⟨_, i, k + 1, acc ++ [⟨dig b[k], 2, ⟨#[]⟩, 0, b[k]⟩], rfl, by omega, by omega, rfl, by go_num, Lib.hid (by first | (have := HD.out; rw [← hD.out, this]; simp) | (have := HD.out; rw [← hD.out, this])), by first | (simp; omega) | omega, HO3, HB3⟩
        case measure => simp [intOf]; omega
      · have HE := Lib.hid (show mrg a b = acc by
          have := hD.out
          rw [List.drop_eq_nil_of_le (by omega), List.drop_eq_nil_of_le (by omega), mrg_end, List.append_nil] at this
          rw [this])
        have ti1 : decide ((i : Int) < (a.length : Int)) = false := by simp; omega
        have ti2 : decide (i < a.length) = false := by simp; omega
        have ti3 : ((i : Int) == (a.length : Int)) = true := by simp; omega
        have ti4 : (i == a.length) = true := by simp; omega
        have tk1 : decide ((k : Int) < (b.length : Int)) = false := by simp; omega
        have tk2 : decide (k < b.length) = false := by simp; omega
        have tk3 : ((k : Int) == (b.length : Int)) = true := by simp; omega
        have tk4 : (k == b.length) = true := by simp; omega
        go_wp2
        go_ret
        exact ⟨_, rfl, by rw [HE.out]; exact ho.out, hbl.out⟩
end Go.Proofs.Ytejodabmddcanaa
