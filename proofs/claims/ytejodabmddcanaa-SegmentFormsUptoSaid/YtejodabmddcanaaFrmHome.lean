/- DERIVED. Are the keys of a list at home: the document's text and the program's, by the library's search. -/
import Derived.Test.YtejodabmddcanaaSegPlace
import Derived.Test.YtejodabmddcanaaSegLent
import Derived.Deep.RegionHeld3
namespace Go.Proofs.Ytejodabmddcanaa
open Go.RowKit

def homeB (n : Int) (l : List Ent) : Bool := l.all fun e => ofI e.key == n
theorem home_no {n : Int} {l : List Ent} {k : Nat} (hk : k < l.length) (h : (ofI l[k].key == n) = false) : homeB n l = false := by
  rw [Bool.eq_false_iff]
  intro hh
  simp only [homeB, List.all_eq_true] at hh
  have := hh _ (List.getElem_mem hk)
  rw [h] at this; cases this
theorem home_all {n : Int} {l : List Ent} (h : ∀ j (hj : j < l.length), (ofI l[j].key == n) = true) : homeB n l = true := by
  simp only [homeB, List.all_eq_true]
  intro e he
  obtain ⟨i, hi, rfl⟩ := List.getElem_of_mem he
  exact h i hi
def homeTo (n : Int) (l : List Ent) (k : Nat) : Prop := ∀ j (hj : j < l.length), j < k → (ofI l[j].key == n) = true
theorem homeTo_succ {n : Int} {l : List Ent} {k : Nat} (h : homeTo n l k) (hk : k < l.length) (hq : (ofI l[k].key == n) = true) : homeTo n l (k + 1) := fun j hj hjk => by
  by_cases he : j = k
  · subst he; exact hq
  · exact h j hj (by omega)

set_option maxRecDepth 100000 in
set_option maxHeartbeats 3200000 in
theorem refHome_any (A : Option Addr) (c : Nat) (n : Int) (l : List Ent) (w : World) (ha : Rd w A l) :
    Calls Try.prog 50 #[.int .i64 n, .slice A l.length c] w fun e w' => e = .returned (.bool (homeB n l)) ∧ Below w.heap.size w w' := by
  have hmax := ha.max
  have HA := Lib.hid ha
  clear ha
  go_enter Try.func50, Try.ntmps50
  go_wp2
  go_loopw [5] (fun i w' => ∃ k : Nat, k ≤ l.length ∧ i = .int .i64 k ∧ Hid (homeTo n l k) ∧ Hid (Below w.heap.size w w')) (fun i _ => l.length - (intOf i).toNat)
  case atStart => exact ⟨0, Nat.zero_le _, rfl, Lib.hid (fun _ _ h => absurd h (by omega)), Lib.hid (Below.refl _ _)⟩
  case round =>
    obtain ⟨k, hk, rfl, hT, hb⟩ := hrel
    by_cases hlt : k < l.length
    · have i1 : (0 : Int) ≤ (k : Int) := by omega
      have i2 : (k : Int) < (l.length : Int) := by omega
      obtain ⟨ad, e1, k0, _⟩ := HA.out.at_ k hlt
      cases e1
      have c0 := (hb.out.cell (World.block_lt_of_cell? w _ k0)).trans k0
      clear k0
      obtain ⟨V, hV⟩ : ∃ V, V = ofI l[k].key := ⟨_, rfl⟩
      have hc := fun W => refSegOf_any l[k].key W
      rw [← hV] at hc
      by_cases hq : (V == n) = true
      · have HQ := Lib.hid (show (ofI l[k].key == n) = true by rw [← hV]; exact hq)
        have hq2 : (V != n) = false := by simp only [bne, hq, Bool.not_true]
        clear hV
        go_wp2_with fail
        refine (hc _).mono ?_
        rintro e w1 ⟨rfl, hb1⟩
        have HB1 := Lib.hid (bl_then hb.out hb1)
        clear hb1
        go_wp2
        go_roundw
        case rel => exact ⟨k + 1, by omega, by go_num, Lib.hid (homeTo_succ hT.out hlt HQ.out), HB1⟩
        case measure => simp [intOf]; omega
      · have hq' : (V == n) = false := by simpa using hq
        have HV := Lib.hid (home_no hlt (show (ofI l[k].key == n) = false by rw [← hV]; exact hq'))
        have hq2 : (V != n) = true := by simp only [bne, hq', Bool.not_false]
        clear hV hq
        go_wp2_with fail
        refine (hc _).mono ?_
        rintro e w1 ⟨rfl, hb1⟩
        have HB1 := Lib.hid (bl_then hb.out hb1)
        clear hb1
        go_wp2
        go_ret
        exact ⟨ret_bool HV.out.symm, HB1.out⟩
    · obtain rfl : k = l.length := by omega
      have i1 : decide ((l.length : Int) < (l.length : Int)) = false := by simp
      have i2 : decide (l.length < l.length) = false := by simp
      have HV := Lib.hid (home_all (n := n) (l := l) (fun j hj => hT.out j hj hj))
      go_wp2
      go_ret
      exact ⟨ret_bool HV.out.symm, hb.out⟩

set_option maxRecDepth 100000 in
set_option maxHeartbeats 3200000 in
theorem home1_any (g : Nat) (n V : Int) (k s : ByteArray) (w : World) (hc : ∀ W, Calls Try.prog 38 #[.string k] W fun e w' => e = .returned (.int .i64 V) ∧ Below W.heap.size W w') (cn : w.cell? ⟨g, 0, none⟩ = some (.int .i64 n)) :
    Calls Try.prog 80 #[.agg #[.string k, .string s], .pointer (some ⟨g, 0, none⟩)] w fun e w' => e = .returned (.bool (V != n)) ∧ Below w.heap.size w w' := by
  have lg := World.block_lt_of_cell? w _ cn
  have ng : g ≠ w.heap.size := by have : (⟨g, 0, none⟩ : Addr).block < w.heap.size := lg; intro e; subst e; exact Nat.lt_irrefl _ this
  have HR := Lib.hid (Below.refl (w.alloc (.cells #[.string k, .string s] 53)).heap.size (w.alloc (.cells #[.string k, .string s] 53)))
  have KA := Lib.hid (show (w.alloc (.cells #[.string k, .string s] 53)).cell? ⟨g, 0, none⟩ = some (.int .i64 n) from (World.cell?_alloc_lt w _ _ lg).trans cn)
  have KB := Lib.hid (show (w.alloc (.cells #[.string k, .string s] 53)).cell? ⟨w.heap.size, 0, none⟩ = some (.string k) from (GR.Blk.new w 53 #[.string k, .string s]).cell 0)
  go_enter Try.func80, Try.ntmps80
  go_wp2
  go_region_held3 (fun w' => w'.cell? ⟨g, 0, none⟩ = some (.int .i64 n) ∧ w'.cell? ⟨w.heap.size, 0, none⟩ = some (.string k)) (first | go_keep | exact ⟨(HR.out.cell (World.block_lt_of_cell? (w.alloc (.cells #[.string k, .string s] 53)) _ KA.out)).trans KA.out, (HR.out.cell (World.block_lt_of_cell? (w.alloc (.cells #[.string k, .string s] 53)) _ KB.out)).trans KB.out⟩) ((go_at_call 38; refine (hc _).mono ?_; rintro e w2 ⟨rfl, hb2⟩; have HN_ := Lib.hid (bl_then (w := (w.alloc (.cells #[.string k, .string s] 53))) (by repeat (first | exact HR.out | refine bl_drewN ?_ _ | refine bl_drew ?_ | refine bl_alloc ?_ _)) hb2); clear hb2 HR; have HR := HN_; clear HN_))
  go_wp2
  go_ret
  exact ⟨rfl, bl_then ((Below.refl _ _).alloc (Nat.le_refl _) _) (by repeat (first | exact HR.out | refine bl_drewN ?_ _ | refine bl_drew ?_ | refine bl_alloc ?_ _))⟩

theorem find_no {n : Int} {l : List Ent} (h : homeTo n l l.length) : homeB n l = true := home_all fun j hj => h j hj hj
set_option maxRecDepth 100000 in
set_option maxHeartbeats 3200000 in
theorem index_any (A : Option Addr) (c g : Nat) (n : Int) (l : List Ent) (w : World) (ha : Rd w A l) (cn : w.cell? ⟨g, 0, none⟩ = some (.int .i64 n)) :
    Calls Try.prog 93 #[.slice A l.length c, .func (.func 80) #[] #[.pointer (some ⟨g, 0, none⟩)]] w fun e w' => (∃ r : Int, e = .returned (.int .i64 r) ∧ decide (0 ≤ r) = !homeB n l) ∧ Below w.heap.size w w' := by
  have hmax := ha.max
  have HA := Lib.hid ha
  have CN := Lib.hid cn
  clear ha cn
  go_enter Try.func93, Try.ntmps93
  go_wp2
  go_loopw [8] (fun i w' => ∃ k : Nat, k ≤ l.length ∧ i = .int .i64 k ∧ Hid (homeTo n l k) ∧ Hid (Below w.heap.size w w')) (fun i _ => l.length - (intOf i).toNat)
  case atStart => exact ⟨0, Nat.zero_le _, rfl, Lib.hid (fun _ _ h => absurd h (by omega)), Lib.hid (Below.refl _ _)⟩
  case round =>
    obtain ⟨k, hk, rfl, hT, hb⟩ := hrel
    by_cases hlt : k < l.length
    · have i1 : (0 : Int) ≤ (k : Int) := by omega
      have i2 : (k : Int) < (l.length : Int) := by omega
      obtain ⟨ad, e1, k0, k1⟩ := HA.out.at_ k hlt
      cases e1
      have c0 := (hb.out.cell (World.block_lt_of_cell? w _ k0)).trans k0
      have c1 := (hb.out.cell (World.block_lt_of_cell? w _ k1)).trans k1
      have CG := Lib.hid ((hb.out.cell (World.block_lt_of_cell? w _ CN.out)).trans CN.out)
      clear k0 k1
      obtain ⟨V, hV⟩ : ∃ V, V = ofI l[k].key := ⟨_, rfl⟩
      have hc := fun W => segOf_any l[k].key W
      rw [← hV] at hc
      by_cases hq : (V == n) = true
      · have HQ := Lib.hid (show (ofI l[k].key == n) = true by rw [← hV]; exact hq)
        have hq2 : (V != n) = false := by simp only [bne, hq, Bool.not_true]
        have HQ2 := Lib.hid hq2
        clear hV hq2 hq
        go_wp2_with fail
        refine (home1_any g n V _ _ _ hc CG.out).mono ?_
        rintro e w1 ⟨rfl, hb1⟩
        rw [HQ2.out]
        have HB1 := Lib.hid (bl_then hb.out hb1)
        clear hb1
        go_wp2
        go_roundw
        case rel => exact ⟨k + 1, by omega, by go_num, Lib.hid (homeTo_succ hT.out hlt HQ.out), HB1⟩
        case measure => simp [intOf]; omega
      · have hq' : (V == n) = false := by simpa using hq
        have HV := Lib.hid (home_no hlt (show (ofI l[k].key == n) = false by rw [← hV]; exact hq'))
        have hq2 : (V != n) = true := by simp only [bne, hq', Bool.not_false]
        have HQ2 := Lib.hid hq2
        clear hV hq hq' hq2
        go_wp2_with fail
        refine (home1_any g n V _ _ _ hc CG.out).mono ?_
        rintro e w1 ⟨rfl, hb1⟩
        rw [HQ2.out]
        have HB1 := Lib.hid (bl_then hb.out hb1)
        clear hb1
        go_wp2
        go_ret
        exact ⟨⟨_, rfl, by rw [HV.out]; simp⟩, HB1.out⟩
    · obtain rfl : k = l.length := by omega
      have i1 : decide ((l.length : Int) < (l.length : Int)) = false := by simp
      have i2 : decide (l.length < l.length) = false := by simp
      have HV := Lib.hid (find_no hT.out)
      go_wp2
      go_ret
      exact ⟨⟨_, rfl, by rw [HV.out]; rfl⟩, hb.out⟩

theorem contains_any (A : Option Addr) (c g : Nat) (n : Int) (l : List Ent) (w : World) (ha : Rd w A l) (cn : w.cell? ⟨g, 0, none⟩ = some (.int .i64 n)) :
    Calls Try.prog 79 #[.slice A l.length c, .func (.func 80) #[] #[.pointer (some ⟨g, 0, none⟩)]] w fun e w' => e = .returned (.bool (!homeB n l)) ∧ Below w.heap.size w w' := by
  have HA := Lib.hid ha
  have CN := Lib.hid cn
  clear ha cn
  go_enter Try.func79, Try.ntmps79
  go_wp2_with fail
  refine (index_any A c g n l _ HA.out CN.out).mono ?_
  rintro e w1 ⟨⟨r, rfl, hr⟩, hb1⟩
  have HR := Lib.hid hr
  have HB := Lib.hid hb1
  clear hr hb1
  go_wp2
  go_ret
  exact ⟨ret_bool HR.out, HB.out⟩

theorem segHome_any (A : Option Addr) (c : Nat) (n : Int) (l : List Ent) (w : World) (ha : Rd w A l) :
    Calls Try.prog 49 #[.int .i64 n, .slice A l.length c] w fun e w' => e = .returned (.bool (homeB n l)) ∧ Below w.heap.size w w' := by
  have HA := Lib.hid ha
  clear ha
  go_enter Try.func49, Try.ntmps49
  go_wp2_with fail
  refine (contains_any A c w.heap.size n l _ (HA.out.alloc _) ((GR.Blk.new w 3 #[.int .i64 n]).cell 0)).mono ?_
  rintro e w1 ⟨rfl, hb1⟩
  have HB := Lib.hid (bl_then ((Below.refl _ _).alloc (Nat.le_refl _) _) hb1)
  clear hb1
  go_wp2
  go_ret
  exact ⟨ret_bool (by simp), HB.out⟩
end Go.Proofs.Ytejodabmddcanaa
