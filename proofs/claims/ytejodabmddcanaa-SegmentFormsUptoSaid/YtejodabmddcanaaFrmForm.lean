/- DERIVED. The form of a list: the document's text and the program's. -/
import Derived.Test.YtejodabmddcanaaFrmFix
namespace Go.Proofs.Ytejodabmddcanaa
open Go.RowKit Go.Lib

def entU (e : Ent) : List UInt8 := textU e.key ++ textU e.sum
def bodyL (l : List Ent) : List UInt8 := l.flatMap entU
def formL (n : Nat) (l : List Ent) : List UInt8 := 83 :: fix2 n ++ uintU l.length ++ bodyL l
def Small (l : List Ent) : Prop := ∀ e ∈ l, e.key.size ≤ 32 ∧ e.sum.size ≤ 32
theorem textU_len {s : ByteArray} (h : s.size ≤ 32) : (textU s).length ≤ 42 := by
  have := uintU_len10 (show s.size < 18446744073709551616 by omega)
  have e : s.data.toList.length = s.size := rfl
  rw [textU, List.length_append, e]; omega
theorem bodyL_len : ∀ (l : List Ent), Small l → (bodyL l).length ≤ 84 * l.length
  | [], _ => by simp [bodyL]
  | e :: l, h => by
    have h1 := bodyL_len l (fun x hx => h x (List.mem_cons_of_mem _ hx))
    have h2 := h e List.mem_cons_self
    have h3 := textU_len h2.1
    have h4 := textU_len h2.2
    have : bodyL (e :: l) = entU e ++ bodyL l := rfl
    rw [this, List.length_append, entU, List.length_append, List.length_cons]; omega
theorem bodyL_succ (l : List Ent) (k : Nat) (h : k < l.length) : bodyL (l.take (k + 1)) = bodyL (l.take k) ++ textU l[k].key ++ textU l[k].sum := by
  rw [List.take_succ_eq_append_getElem h, bodyL, List.flatMap_append, List.append_assoc]
  simp [bodyL, entU]
theorem headL_len (n : Nat) (l : List Ent) (hl : l.length ≤ 1048576) : (83 :: fix2 n ++ uintU l.length).length ≤ 13 := by
  have := uintU_len10 (show l.length < 18446744073709551616 by omega)
  simp [fix2]; omega
theorem take_len {l : List Ent} {k : Nat} (hS : Small l) (hl : l.length ≤ 1048576) : (bodyL (l.take k)).length ≤ 88080384 := by
  have := bodyL_len (l.take k) (fun x hx => hS x (List.mem_of_mem_take hx))
  have h2 : (l.take k).length ≤ l.length := by simp; omega
  omega
theorem sizeL (L : List UInt8) : (⟨L.toArray⟩ : ByteArray).size = L.length := by simp [ByteArray.size]

set_option maxRecDepth 100000 in
set_option maxHeartbeats 3200000 in
theorem refForm_any (A : Option Addr) (c n : Nat) (l : List Ent) (hn : n < 4096) (hS : Small l) (hl : l.length ≤ 1048576) (w : World) (ha : Rd w A l) :
    Calls Try.prog 69 #[.int .i64 n, .slice A l.length c] w fun e w' => e = .returned (.string ⟨(formL n l).toArray⟩) ∧ Below w.heap.size w w' := by
  have HA := Lib.hid ha
  have HSm := Lib.hid hS
  have hh := headL_len n l hl
  have hcat1 : ∀ W, (Op.stringOp .add ⟨#[83]⟩ ⟨(fix2 n).toArray⟩).run Try.prog W = .ok (.string ⟨(83 :: fix2 n).toArray⟩) W := fun W => by
    rw [run_string_add_sum W _ _ (by rw [sizeL]; show 1 + 2 ≤ 9223372036854775807; omega)]
    have := strApp ⟨(fix2 n).toArray⟩ [83]
    simpa using congrArg (fun z => Result.ok (Value.string z) W) this
  have hcat2 : ∀ W, (Op.stringOp .add ⟨(83 :: fix2 n).toArray⟩ ⟨(uintU l.length).toArray⟩).run Try.prog W = .ok (.string ⟨(83 :: fix2 n ++ uintU l.length).toArray⟩) W := fun W => by
    rw [run_string_add_sum W _ _ (by rw [sizeL, sizeL]; rw [List.length_append] at hh; omega)]
    have := strApp ⟨(uintU l.length).toArray⟩ (83 :: fix2 n)
    simpa using congrArg (fun z => Result.ok (Value.string z) W) this
  clear ha hS
  go_enter Try.func69, Try.ntmps69
  go_wp2_with fail
  refine (fixed_any n 2 (by omega) (by omega) (by omega) _).mono ?_
  rintro e w1 ⟨he, hb1⟩
  rw [fix2_str] at he
  subst he
  have HB1 := Lib.hid hb1
  clear hb1
  go_wp2_with fail
  refine (refUint_any l.length (by omega) _).mono ?_
  rintro e w2 ⟨rfl, hb2⟩
  have HB2 := Lib.hid (bl_then HB1.out hb2)
  clear hb2 HB1
  go_wp2_with (refine conv_ownM rfl 9 23 _ rfl ⟨(83 :: fix2 n ++ uintU l.length).toArray⟩ rfl Try.underlying9 Try.underlying23 Try.underlying5 (by rw [sizeL]; omega) ?_; intro v3 w3 ho_ hb_; have HO3 := Lib.hid (OwnN.more (.inr ho_) HB2.out.size); have HB3 := Lib.hid (bl_then HB2.out hb_); clear ho_ hb_ HB2)
  go_loopw [5, 6] (fun b0 i0 w' => ∃ (b : Value) (k : Nat), b = b0 ∧ i0 = .int .i64 k ∧ k ≤ l.length ∧ Hid (OwnN w' w.heap.size b (83 :: fix2 n ++ uintU l.length ++ bodyL (l.take k))) ∧ Hid (Below w.heap.size w w')) (fun _ i0 _ => l.length - (intOf i0).toNat)
  case atStart => exact ⟨_, 0, rfl, rfl, Nat.zero_le _, Lib.hid (by have := HO3.out; simpa [bodyL] using this), HB3⟩
  case round =>
    obtain ⟨b, k, rfl, rfl, hk, ho, hb⟩ := hrel
    have hsz := hb.out.size
    have hbl := take_len (k := k) HSm.out hl
    have hLL : (83 :: fix2 n ++ uintU l.length ++ bodyL (l.take k)).length ≤ 88080397 := by rw [List.length_append]; omega
    by_cases hlt : k < l.length
    · have i1 : (0 : Int) ≤ (k : Int) := by omega
      have i2 : (k : Int) < (l.length : Int) := by omega
      have hks := HSm.out _ (List.getElem_mem hlt)
      have hk1 := textU_len hks.1
      have hk2 := textU_len hks.2
      obtain ⟨ad, e1, k0, k1⟩ := HA.out.at_ k hlt
      cases e1
      have c0 := (hb.out.cell (World.block_lt_of_cell? w _ k0)).trans k0
      have K1 := Lib.hid k1
      clear k0 k1
      go_wp2_with fail
      refine (refText_any l[k].key (by omega) _).mono ?_
      rintro e w4 ⟨rfl, hb4⟩
      have HB4 := Lib.hid (bl_then hb.out hb4)
      have HO4 := Lib.hid (ho.out.below hb4)
      have hs4 := HB4.out.size
      clear hb4
      go_wp2_with (at_builtin; refine appS rfl (.tmp 23) (.tmp 29) rfl w.heap.size b _ rfl HO4.out ⟨(textU l[k].key).toArray⟩ rfl (by rw [sizeL]; omega) hs4 ?_; intro v5 w5 ho_ hg_; have HO5 : Hid (OwnN w5 w.heap.size v5 (83 :: fix2 n ++ uintU l.length ++ bodyL (l.take k) ++ textU l[k].key)) := Lib.hid ho_; have HB5 := Lib.hid (bl_of_grown HB4.out hg_ (fun b hb => (HO4.out.lt b hb).1)); have c5 := (HB5.out.cell (World.block_lt_of_cell? w _ K1.out)).trans K1.out; clear ho_ hg_)
      refine (refText_any l[k].sum (by omega) _).mono ?_
      rintro e w6 ⟨rfl, hb6⟩
      have HB6 := Lib.hid (bl_then HB5.out hb6)
      have HO6 := Lib.hid (HO5.out.below hb6)
      have hs6 := HB6.out.size
      clear hb6
      go_wp2_with (at_builtin; refine appS rfl (.tmp 31) (.tmp 37) rfl w.heap.size v5 _ rfl HO6.out ⟨(textU l[k].sum).toArray⟩ rfl (by rw [sizeL, List.length_append]; omega) hs6 ?_; intro v7 w7 ho_ hg_; have HO7 := Lib.hid ho_; have HB7 := Lib.hid (bl_of_grown HB6.out hg_ (fun b hb => (HO6.out.lt b hb).1)); clear ho_ hg_)
      go_roundw
      case rel => exact ⟨_, k + 1, rfl, by go_num, hlt, Lib.hid (by have h9 := HO7.out; rw [bodyL_succ l k hlt]; simpa [List.append_assoc] using h9), HB7⟩
      case measure => simp [intOf]; omega
    · obtain rfl : k = l.length := by omega
      have i1 : decide ((l.length : Int) < (l.length : Int)) = false := by simp
      have i2 : decide (l.length < l.length) = false := by simp
      have hcv := ownN_str ho.out
      go_wp2
      go_ret
      exact ⟨ret_str (by simp [formL]), hb.out⟩

def formE (n : Int) (l : List Ent) : Int := if segB n then (if listB l then 0 else 140) else 1
def formS (n : Int) (l : List Ent) : ByteArray := if segB n && listB l then ⟨(formL n.toNat l).toArray⟩ else ⟨#[]⟩
theorem small_of_valid {l : List Ent} {wd : Int} (h : validB l wd = true) : Small l := by
  intro e he
  obtain ⟨i, hi⟩ := List.getElem?_of_mem he
  have hlt := (List.getElem?_eq_some_iff.1 hi).1
  simp only [validB, Bool.and_eq_true, List.all_eq_true, List.mem_range, decide_eq_true_eq] at h
  have h1 := h.1 i hlt
  simp only [okAt, hi, Bool.and_eq_true, beq_iff_eq, keyB, decide_eq_true_eq] at h1
  omega
theorem small_of_list {l : List Ent} (h : listB l = true) : Small l := by
  cases l with
  | nil => intro e he; cases he
  | cons x l => exact small_of_valid h
theorem ret_si {a b : ByteArray} {x y : Int} (h : b = a) (k : y = x) : Ending.returned (.tuple #[.string a, .int .i64 x]) = .returned (.tuple #[.string b, .int .i64 y]) := by rw [h, k]
theorem form_yes {m : Nat} {l : List Ent} (h1 : segB m = true) (h2 : listB l = true) : formS m l = ⟨(formL m l).toArray⟩ ∧ formE m l = 0 := by simp [formS, formE, h1, h2]
theorem form_list {n : Int} {l : List Ent} (h1 : segB n = true) (h2 : listB l = false) : formS n l = ⟨#[]⟩ ∧ formE n l = 140 := by simp [formS, formE, h1, h2]
theorem form_seg {n : Int} {l : List Ent} (h1 : segB n = false) : formS n l = ⟨#[]⟩ ∧ formE n l = 1 := by simp [formS, formE, h1]

set_option maxRecDepth 100000 in
set_option maxHeartbeats 3200000 in
theorem refFormE_any (A : Option Addr) (c : Nat) (n : Int) (l : List Ent) (hl : l.length ≤ 1048576) (w : World) (ha : Rd w A l) :
    Calls Try.prog 43 #[.int .i64 n, .slice A l.length c] w fun e w' => e = .returned (.tuple #[.string (formS n l), .int .i64 (formE n l)]) ∧ Below w.heap.size w w' := by
  have HA := Lib.hid ha
  clear ha
  by_cases h1 : segB n = true
  · by_cases h2 : listB l = true
    · obtain ⟨m, rfl, hm⟩ := segB_pos h1
      have HV := Lib.hid (form_yes h1 h2)
      have HS := Lib.hid (small_of_list h2)
      go_enter Try.func43, Try.ntmps43
      go_wp2_with fail
      refine (refSeg_any _ _).mono ?_
      rintro e w1 ⟨rfl, rfl⟩
      rw [h1]
      go_wp2_with fail
      refine (refList_any _ _ _ _ HA.out).mono ?_
      rintro e w1 ⟨rfl, hd1⟩
      rw [h2]
      have D1 := Lib.hid hd1
      clear hd1
      go_wp2_with fail
      refine (refForm_any A c m l hm HS.out hl _ (D1.out.rd HA.out)).mono ?_
      rintro e w2 ⟨rfl, hb2⟩
      have B2 := Lib.hid (((D1.out.below _).trans (hb2.mono (Nat.le_of_eq D1.out.size.symm)) : Below w.heap.size w w2))
      clear hb2 D1
      go_wp2
      go_ret2
      exact ⟨ret_si HV.out.1 HV.out.2, B2.out⟩
    · have h2' : listB l = false := by simpa using h2
      have HV := Lib.hid (form_list h1 h2')
      clear h2
      go_enter Try.func43, Try.ntmps43
      go_wp2_with fail
      refine (refSeg_any _ _).mono ?_
      rintro e w1 ⟨rfl, rfl⟩
      rw [h1]
      go_wp2_with fail
      refine (refList_any _ _ _ _ HA.out).mono ?_
      rintro e w1 ⟨rfl, hd1⟩
      rw [h2']
      have D1 := Lib.hid hd1
      clear hd1
      go_wp2
      go_ret2
      exact ⟨ret_si HV.out.1 HV.out.2, D1.out.below _⟩
  · have h1' : segB n = false := by simpa using h1
    have HV := Lib.hid (form_seg (l := l) h1')
    clear h1
    go_enter Try.func43, Try.ntmps43
    go_wp2_with fail
    refine (refSeg_any _ _).mono ?_
    rintro e w1 ⟨rfl, rfl⟩
    rw [h1']
    go_wp2
    go_ret2
    exact ⟨ret_si HV.out.1 HV.out.2, Below.refl _ _⟩

set_option maxRecDepth 100000 in
set_option maxHeartbeats 3200000 in
theorem segForm_any (A : Option Addr) (c : Nat) (n : Int) (l : List Ent) (hl : l.length ≤ 1048576) (w : World) (ha : Rd w A l) :
    Calls Try.prog 45 #[.int .i64 n, .slice A l.length c] w fun e w' => e = .returned (.tuple #[.string (formS n l), .int .i64 (formE n l)]) ∧ Below w.heap.size w w' := by
  have HA := Lib.hid ha
  clear ha
  by_cases h1 : segB n = true
  · by_cases h2 : listB l = true
    · obtain ⟨m, rfl, hm⟩ := segB_pos h1
      have HV := Lib.hid (form_yes h1 h2)
      have HSm := Lib.hid (small_of_list h2)
      have hh := headL_len m l hl
      have hu := uintU_len10 (show l.length < 18446744073709551616 by omega)
      go_enter Try.func45, Try.ntmps45
      go_wp2_with fail
      refine (segSeg_any _ _).mono ?_
      rintro e w1 ⟨rfl, rfl⟩
      rw [h1]
      go_wp2_with fail
      refine (segList_any _ _ _ _ HA.out).mono ?_
      rintro e w1 ⟨rfl, hb1⟩
      rw [h2]
      have B1 := Lib.hid hb1
      clear hb1
      go_wp2_with fail
      refine (newWriter_any _).mono ?_
      rintro e w2 ⟨rfl, hw2, hb2⟩
      have W2 := Lib.hid hw2
      have hs1 := B1.out.size
      have B2 := Lib.hid (bl_then B1.out hb2)
      clear hw2 hb2
      go_wp2_with fail
      refine (byte_any _ _ [] 83 83 _ W2.out rfl (by simp)).mono ?_
      rintro e w3 ⟨rfl, hw3, hb3⟩
      have W3 := Lib.hid hw3
      have B3 := Lib.hid (B2.out.trans (hb3.mono hs1))
      clear hw3 hb3 W2
      go_wp2_with fail
      refine (fixed2_any _ _ _ m (by omega) _ W3.out (by simp)).mono ?_
      rintro e w4 ⟨rfl, hw4, hb4⟩
      have W4 := Lib.hid hw4
      have B4 := Lib.hid (B3.out.trans (hb4.mono hs1))
      clear hw4 hb4 W3 B3
      go_wp2_with fail
      refine (uint_any _ _ _ l.length (by omega) _ W4.out (by simp [fix2])).mono ?_
      rintro e w5 ⟨rfl, hw5, hb5, _⟩
      have W5 := Lib.hid (show Wr w5 w1.heap.size w1.heap.size (83 :: fix2 m ++ uintU l.length) by simpa using hw5)
      have B5 := Lib.hid (B4.out.trans (hb5.mono hs1))
      clear hw5 hb5 W4 B4 B2 B1
      go_wp2
      go_loopw [31] (fun i0 w' => ∃ (k : Nat), i0 = .int .i64 k ∧ k ≤ l.length ∧ Hid (Wr w' w1.heap.size w1.heap.size (83 :: fix2 m ++ uintU l.length ++ bodyL (l.take k))) ∧ Hid (Below w.heap.size w w')) (fun i0 _ => l.length - (intOf i0).toNat)
      case atStart => exact ⟨0, rfl, Nat.zero_le _, Lib.hid (by have := W5.out; simpa [bodyL] using this), B5⟩
      case round =>
        obtain ⟨k, rfl, hk, hW, hb⟩ := hrel
        have hbl := take_len (k := k) HSm.out hl
        have hLL : (83 :: fix2 m ++ uintU l.length ++ bodyL (l.take k)).length ≤ 88080397 := by rw [List.length_append]; omega
        by_cases hlt : k < l.length
        · have i1 : (0 : Int) ≤ (k : Int) := by omega
          have i2 : (k : Int) < (l.length : Int) := by omega
          have hks := HSm.out _ (List.getElem_mem hlt)
          have hk1 := textU_len hks.1
          have hk2 := textU_len hks.2
          obtain ⟨ad, e1, k0, k1⟩ := HA.out.at_ k hlt
          cases e1
          have c0 := (hb.out.cell (World.block_lt_of_cell? w _ k0)).trans k0
          have c1 := (hb.out.cell (World.block_lt_of_cell? w _ k1)).trans k1
          clear k0 k1
          have hgl : w1.heap.size < wr.heap.size := by obtain ⟨_, _, h, _⟩ := hW.out; exact h.lt
          go_wp2_with fail
          refine (wtext_any _ _ _ l[k].key _ (hW.out.below ((Below.refl _ _).alloc (Nat.le_refl _) _)) (by omega)).mono ?_
          rintro e w6 ⟨rfl, hw6, hb6, hk6⟩
          have W6 := Lib.hid hw6
          have X6 := hk6 wr.heap.size 53 _ (GR.Blk.new wr 53 #[.string l[k].key, .string l[k].sum]) (by decide) (by omega)
          have x1 : w6.cell? ⟨wr.heap.size, 1, none⟩ = some (.string l[k].sum) := X6.cell 1
          have B6 := Lib.hid ((bl_alloc hb.out (.cells #[.string l[k].key, .string l[k].sum] 53)).trans (hb6.mono hs1))
          clear hw6 hb6 hk6 X6
          go_wp2_with fail
          refine (wtext_any _ _ _ l[k].sum _ W6.out (by rw [List.length_append]; omega)).mono ?_
          rintro e w7 ⟨rfl, hw7, hb7, _⟩
          have W7 := Lib.hid hw7
          have B7 := Lib.hid (B6.out.trans (hb7.mono hs1))
          clear hw7 hb7
          go_wp2
          go_roundw
          case rel => exact ⟨k + 1, by go_num, hlt, Lib.hid (by have h9 := W7.out; rw [bodyL_succ l k hlt]; simpa [List.append_assoc] using h9), B7⟩
          case measure => simp [intOf]; omega
        · obtain rfl : k = l.length := by omega
          have i1 : decide ((l.length : Int) < (l.length : Int)) = false := by simp
          have i2 : decide (l.length < l.length) = false := by simp
          have HW := Lib.hid (show Wr wr w1.heap.size w1.heap.size (formL m l) by have h9 := hW.out; rw [List.take_length] at h9; exact h9)
          go_wp2_with fail
          refine (told_any _ _ _ _ HW.out).mono ?_
          rintro e w8 ⟨rfl, rfl⟩
          go_wp2
          go_ret2
          exact ⟨ret_si HV.out.1 HV.out.2, hb.out⟩
    · have h2' : listB l = false := by simpa using h2
      have HV := Lib.hid (form_list h1 h2')
      clear h2
      go_enter Try.func45, Try.ntmps45
      go_wp2_with fail
      refine (segSeg_any _ _).mono ?_
      rintro e w1 ⟨rfl, rfl⟩
      rw [h1]
      go_wp2_with fail
      refine (segList_any _ _ _ _ HA.out).mono ?_
      rintro e w1 ⟨rfl, hb1⟩
      rw [h2']
      have B1 := Lib.hid hb1
      clear hb1
      go_wp2
      go_ret2
      exact ⟨ret_si HV.out.1 HV.out.2, B1.out⟩
  · have h1' : segB n = false := by simpa using h1
    have HV := Lib.hid (form_seg (l := l) h1')
    clear h1
    go_enter Try.func45, Try.ntmps45
    go_wp2_with fail
    refine (segSeg_any _ _).mono ?_
    rintro e w1 ⟨rfl, rfl⟩
    rw [h1']
    go_wp2
    go_ret2
    exact ⟨ret_si HV.out.1 HV.out.2, Below.refl _ _⟩
end Go.Proofs.Ytejodabmddcanaa
