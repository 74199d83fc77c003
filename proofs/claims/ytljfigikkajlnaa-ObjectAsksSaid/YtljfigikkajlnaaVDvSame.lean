/- DERIVED. Same of dots, of siblings: both texts. -/
import Derived.Test.YtljfigikkajlnaaVDvCmp
import Derived.Test.YtljfigikkajlnaaVm6
import Derived.Laws.Runes
namespace Go.Proofs.Ytljfigikkajlnaa
open Go.RowKit Go.Proofs.YtljfigikkajlnaaW.PrintWords
set_option linter.unusedVariables false
set_option linter.unusedSimpArgs false
theorem str_eq {a b : ByteArray} : (a.toList == b.toList) = decide (a = b) := by
  rw [Bool.eq_iff_iff]
  simp only [beq_iff_eq, decide_eq_true_eq, ByteArray.toList_eq]
  exact ⟨fun h => by obtain ⟨⟨a⟩⟩ := a; obtain ⟨⟨b⟩⟩ := b; simp only at h; rw [h], fun h => by rw [h]⟩
/-- Are two dots the same, two siblings? -/
def dEq (a n b m : Int) : Bool := decide (a = b) && decide (n = m)
def sEq (a n : Int) (g : Bool) (v : ByteArray) (b m : Int) (h : Bool) (u : ByteArray) : Bool := dEq a n b m && (decide (g = h) && decide (v = u))
theorem dEq_iff {x y : Dot} : dEq x.a x.n y.a y.n = true ↔ x = y := by
  simp only [dEq, Bool.and_eq_true, decide_eq_true_eq]
  exact ⟨fun h => by cases x; cases y; simp only at h; rw [h.1, h.2], fun h => by rw [h]; exact ⟨rfl, rfl⟩⟩
theorem sEq_iff {x y : Sib} : sEq x.d.a x.d.n x.gone x.v y.d.a y.d.n y.gone y.v = true ↔ x = y := by
  simp only [sEq, Bool.and_eq_true, decide_eq_true_eq, dEq_iff]
  exact ⟨fun h => by cases x; cases y; simp only at h; obtain ⟨h1, h2, h3⟩ := h; rw [h1, h2, h3], fun h => by rw [h]; exact ⟨rfl, rfl, rfl⟩⟩
theorem eqD (d : Nat) (w : World) (a n b m : Int) :
    (Op.equalIn (d + 2) 41 (.agg #[.int .u32 a, .int .u64 n]) (.agg #[.int .u32 b, .int .u64 m])).run Try.prog w = .ok (dEq a n b m) w := by
  have : dEq a n b m = ((a == b) && (n == m)) := by unfold dEq; rfl
  rw [this]
  refine eqA_of Try.underlying41 (by kernel_rfl) ?_
  refine eqf_cons (by rfl) (by go_simp; rfl) (by go_simp; rfl) (by go_simp) ?_
  exact eqf_last (by rfl) (by go_simp; rfl) (by go_simp; rfl) (by go_simp)
attribute [local go_sem high] eqD
theorem eqS (d : Nat) (w : World) (a n : Int) (g : Bool) (v : ByteArray) (b m : Int) (h : Bool) (u : ByteArray) :
    (Op.equalIn (d + 3) 67 (.agg #[.int .u32 a, .int .u64 n, .bool g, .string v]) (.agg #[.int .u32 b, .int .u64 m, .bool h, .string u])).run Try.prog w = .ok (sEq a n g v b m h u) w := by
  have : sEq a n g v b m h u = (dEq a n b m && ((g == h) && (v.toList == u.toList))) := by unfold sEq; rw [str_eq]; rfl
  rw [this]
  refine eqA_of Try.underlying67 (by kernel_rfl) ?_
  refine eqf_cons (by rfl) (by go_simp) (by go_simp) (eqD _ _ _ _ _ _) ?_
  refine eqf_cons (by rfl) (by go_simp; rfl) (by go_simp; rfl) (by go_simp) ?_
  exact eqf_last (by rfl) (by go_simp; rfl) (by go_simp; rfl) (by go_simp)
attribute [local go_sem high] eqS
set_option maxRecDepth 100000 in
set_option maxHeartbeats 1600000 in
theorem sameDots_any (A B : Option Addr) (c d : Nat) (l m : List Dot) (w : World) (hl : GR.Rd dotK w A l) (hm : GR.Rd dotK w B m) :
    Calls Try.prog 125 #[.slice A l.length c, .slice B m.length d] w fun e w' => e = .returned (.bool (decide (l = m))) ∧ Drawn w w' := by
  have h1 : l.length * 16 ≤ 140737488355328 := hl.max
  have h2 : m.length * 16 ≤ 140737488355328 := hm.max
  have HL := Lib.hid hl
  have HM := Lib.hid hm
  clear hl hm
  by_cases hn : l.length = m.length
  · have b0 : (l.length != m.length) = false := by simp [hn]
    have b1 : ((l.length : Int) != (m.length : Int)) = false := by simp [hn]
    have HN := Lib.hid hn
    clear hn
    go_enter Try.func125, Try.ntmps125
    go_wp2
    go_loopw [5] (fun i w' => ∃ k : Nat, k ≤ l.length ∧ i = .int .i64 k ∧ Hid (l.take k = m.take k) ∧ Hid (Drawn w w')) (fun i _ => l.length - (intOf i).toNat)
    case atStart => exact ⟨0, Nat.zero_le _, rfl, Lib.hid (by simp), Lib.hid (Drawn.refl w)⟩
    case round =>
      obtain ⟨k, hk, rfl, hsame, hw⟩ := hrel
      have hL1 := HL.out.below (hw.out.below w.heap.size)
      have hM1 := HM.out.below (hw.out.below w.heap.size)
      by_cases hlt : k < l.length
      · have hlt2 : k < m.length := by have := HN.out; omega
        have i0 : (0 : Int) ≤ (k : Int) := by omega
        have i1 : (k : Int) < (l.length : Int) := by omega
        have i2 : (k : Int) < (m.length : Int) := by omega
        obtain ⟨ad, rfl, hb1, c0, c1⟩ := dot_at hL1 k hlt
        obtain ⟨bd, rfl, hb2, d0, d1⟩ := dot_at hM1 k hlt2
        clear hL1 hM1 hb1 hb2
        by_cases hq : l[k] = m[k]
        · have q0 : dEq l[k].a l[k].n m[k].a m[k].n = true := by rw [hq]; simp [dEq, sEq]
          have HQ := Lib.hid hq
          clear hq
          go_wp2
          go_quiet (fail)
          go_wp2
          go_roundw
          case rel => exact ⟨k + 1, by omega, by go_num, Lib.hid (by rw [List.take_succ_eq_append_getElem hlt, List.take_succ_eq_append_getElem hlt2, hsame.out, HQ.out]), Lib.hid (hw.out.drewN _)⟩
          case measure => simp [intOf]; omega
        · have HV := Lib.hid (show decide (l = m) = false by simp; intro e; subst e; exact hq rfl)
          have q0 : dEq l[k].a l[k].n m[k].a m[k].n = false := by
            rw [Bool.eq_false_iff]
            intro h
            exact hq (dEq_iff.1 h)
          clear hq
          go_wp2
          go_quiet (fail)
          go_wp2
          go_ret
          exact ⟨ret_bool HV.out.symm, hw.out.drewN _⟩
      · obtain rfl : k = l.length := by omega
        have HV := Lib.hid (show decide (l = m) = true by
          have := hsame.out
          rw [List.take_length, HN.out, List.take_length] at this
          simpa using this)
        go_wp2
        go_ret
        exact ⟨ret_bool HV.out.symm, hw.out⟩
  · have HV := Lib.hid (show decide (l = m) = false by simp; intro e; exact hn (by rw [e]))
    have b0 : (l.length != m.length) = true := by simpa using hn
    have b1 : ((l.length : Int) != (m.length : Int)) = true := by simp; omega
    clear hn
    go_enter Try.func125, Try.ntmps125
    go_wp2
    go_ret
    exact ⟨ret_bool HV.out.symm, Drawn.refl _⟩
set_option maxRecDepth 100000 in
set_option maxHeartbeats 1600000 in
theorem equalDots_any (A B : Option Addr) (c d : Nat) (l m : List Dot) (w : World) (hl : GR.Rd dotK w A l) (hm : GR.Rd dotK w B m) :
    Calls Try.prog 104 #[.slice A l.length c, .slice B m.length d] w fun e w' => e = .returned (.bool (decide (l = m))) ∧ Drawn w w' := by
  have h1 : l.length * 16 ≤ 140737488355328 := hl.max
  have h2 : m.length * 16 ≤ 140737488355328 := hm.max
  have HL := Lib.hid hl
  have HM := Lib.hid hm
  clear hl hm
  by_cases hn : l.length = m.length
  · have b0 : (l.length != m.length) = false := by simp [hn]
    have b1 : ((l.length : Int) != (m.length : Int)) = false := by simp [hn]
    have HN := Lib.hid hn
    clear hn
    go_enter Try.func104, Try.ntmps104
    go_wp2
    go_loopw [13] (fun i w' => ∃ k : Nat, k ≤ l.length ∧ i = .int .i64 k ∧ Hid (l.take k = m.take k) ∧ Hid (Drawn w w')) (fun i _ => l.length - (intOf i).toNat)
    case atStart => exact ⟨0, Nat.zero_le _, rfl, Lib.hid (by simp), Lib.hid (Drawn.refl w)⟩
    case round =>
      obtain ⟨k, hk, rfl, hsame, hw⟩ := hrel
      have hL1 := HL.out.below (hw.out.below w.heap.size)
      have hM1 := HM.out.below (hw.out.below w.heap.size)
      by_cases hlt : k < l.length
      · have hlt2 : k < m.length := by have := HN.out; omega
        have i0 : (0 : Int) ≤ (k : Int) := by omega
        have i1 : (k : Int) < (l.length : Int) := by omega
        have i2 : (k : Int) < (m.length : Int) := by omega
        obtain ⟨ad, rfl, hb1, c0, c1⟩ := dot_at hL1 k hlt
        obtain ⟨bd, rfl, hb2, d0, d1⟩ := dot_at hM1 k hlt2
        clear hL1 hM1 hb1 hb2
        by_cases hq : l[k] = m[k]
        · have q0 : dEq l[k].a l[k].n m[k].a m[k].n = true := by rw [hq]; simp [dEq, sEq]
          have HQ := Lib.hid hq
          clear hq
          go_wp2
          go_quiet (fail)
          go_wp2
          go_roundw
          case rel => exact ⟨k + 1, by omega, by go_num, Lib.hid (by rw [List.take_succ_eq_append_getElem hlt, List.take_succ_eq_append_getElem hlt2, hsame.out, HQ.out]), Lib.hid (hw.out.drewN _)⟩
          case measure => simp [intOf]; omega
        · have HV := Lib.hid (show decide (l = m) = false by simp; intro e; subst e; exact hq rfl)
          have q0 : dEq l[k].a l[k].n m[k].a m[k].n = false := by
            rw [Bool.eq_false_iff]
            intro h
            exact hq (dEq_iff.1 h)
          clear hq
          go_wp2
          go_quiet (fail)
          go_wp2
          go_ret
          exact ⟨ret_bool HV.out.symm, hw.out.drewN _⟩
      · obtain rfl : k = l.length := by omega
        have HV := Lib.hid (show decide (l = m) = true by
          have := hsame.out
          rw [List.take_length, HN.out, List.take_length] at this
          simpa using this)
        go_wp2
        go_ret
        exact ⟨ret_bool HV.out.symm, hw.out⟩
  · have HV := Lib.hid (show decide (l = m) = false by simp; intro e; exact hn (by rw [e]))
    have b0 : (l.length != m.length) = true := by simpa using hn
    have b1 : ((l.length : Int) != (m.length : Int)) = true := by simp; omega
    clear hn
    go_enter Try.func104, Try.ntmps104
    go_wp2
    go_ret
    exact ⟨ret_bool HV.out.symm, Drawn.refl _⟩
set_option maxRecDepth 100000 in
set_option maxHeartbeats 1600000 in
theorem equalSibs_any (A B : Option Addr) (c d : Nat) (l m : List Sib) (w : World) (hl : GR.Rd sibK w A l) (hm : GR.Rd sibK w B m) :
    Calls Try.prog 105 #[.slice A l.length c, .slice B m.length d] w fun e w' => e = .returned (.bool (decide (l = m))) ∧ Drawn w w' := by
  have h1 : l.length * 40 ≤ 140737488355328 := hl.max
  have h2 : m.length * 40 ≤ 140737488355328 := hm.max
  have HL := Lib.hid hl
  have HM := Lib.hid hm
  clear hl hm
  by_cases hn : l.length = m.length
  · have b0 : (l.length != m.length) = false := by simp [hn]
    have b1 : ((l.length : Int) != (m.length : Int)) = false := by simp [hn]
    have HN := Lib.hid hn
    clear hn
    go_enter Try.func105, Try.ntmps105
    go_wp2
    go_loopw [13] (fun i w' => ∃ k : Nat, k ≤ l.length ∧ i = .int .i64 k ∧ Hid (l.take k = m.take k) ∧ Hid (Drawn w w')) (fun i _ => l.length - (intOf i).toNat)
    case atStart => exact ⟨0, Nat.zero_le _, rfl, Lib.hid (by simp), Lib.hid (Drawn.refl w)⟩
    case round =>
      obtain ⟨k, hk, rfl, hsame, hw⟩ := hrel
      have hL1 := HL.out.below (hw.out.below w.heap.size)
      have hM1 := HM.out.below (hw.out.below w.heap.size)
      by_cases hlt : k < l.length
      · have hlt2 : k < m.length := by have := HN.out; omega
        have i0 : (0 : Int) ≤ (k : Int) := by omega
        have i1 : (k : Int) < (l.length : Int) := by omega
        have i2 : (k : Int) < (m.length : Int) := by omega
        obtain ⟨ad, rfl, hb1, c0, c1, c2, c3⟩ := sib_at hL1 k hlt
        obtain ⟨bd, rfl, hb2, d0, d1, d2, d3⟩ := sib_at hM1 k hlt2
        clear hL1 hM1 hb1 hb2
        by_cases hq : l[k] = m[k]
        · have q0 : sEq l[k].d.a l[k].d.n l[k].gone l[k].v m[k].d.a m[k].d.n m[k].gone m[k].v = true := by rw [hq]; simp [dEq, sEq]
          have HQ := Lib.hid hq
          clear hq
          go_wp2
          go_quiet (fail)
          go_wp2
          go_roundw
          case rel => exact ⟨k + 1, by omega, by go_num, Lib.hid (by rw [List.take_succ_eq_append_getElem hlt, List.take_succ_eq_append_getElem hlt2, hsame.out, HQ.out]), Lib.hid (hw.out.drewN _)⟩
          case measure => simp [intOf]; omega
        · have HV := Lib.hid (show decide (l = m) = false by simp; intro e; subst e; exact hq rfl)
          have q0 : sEq l[k].d.a l[k].d.n l[k].gone l[k].v m[k].d.a m[k].d.n m[k].gone m[k].v = false := by
            rw [Bool.eq_false_iff]
            intro h
            exact hq (sEq_iff.1 h)
          clear hq
          go_wp2
          go_quiet (fail)
          go_wp2
          go_ret
          exact ⟨ret_bool HV.out.symm, hw.out.drewN _⟩
      · obtain rfl : k = l.length := by omega
        have HV := Lib.hid (show decide (l = m) = true by
          have := hsame.out
          rw [List.take_length, HN.out, List.take_length] at this
          simpa using this)
        go_wp2
        go_ret
        exact ⟨ret_bool HV.out.symm, hw.out⟩
  · have HV := Lib.hid (show decide (l = m) = false by simp; intro e; exact hn (by rw [e]))
    have b0 : (l.length != m.length) = true := by simpa using hn
    have b1 : ((l.length : Int) != (m.length : Int)) = true := by simp; omega
    clear hn
    go_enter Try.func105, Try.ntmps105
    go_wp2
    go_ret
    exact ⟨ret_bool HV.out.symm, Drawn.refl _⟩
/-- Are two states the same? -/
def stEq (a : List Dot) (l : List Sib) (b : List Dot) (m : List Sib) : Bool := decide (a = b) && decide (l = m)
set_option maxRecDepth 100000 in
set_option maxHeartbeats 1600000 in
theorem dvvSame_any (A B C D : Option Addr) (c1 c2 c3 c4 : Nat) (a b : List Dot) (l m : List Sib) (w : World) (ha : GR.Rd dotK w A a) (hl : GR.Rd sibK w B l) (hb : GR.Rd dotK w C b) (hm : GR.Rd sibK w D m) :
    Calls Try.prog 61 #[.agg #[.slice A a.length c1, .slice B l.length c2], .agg #[.slice C b.length c3, .slice D m.length c4]] w fun e w' => e = .returned (.bool (stEq a l b m)) ∧ Below w.heap.size w w' := by
  have HA := Lib.hid ha
  have HL := Lib.hid hl
  have HB := Lib.hid hb
  have HM := Lib.hid hm
  clear ha hl hb hm
  have L0 := Lib.hid ((Below.refl w.heap.size w).alloc (Nat.le_refl _) (.cells #[.slice A a.length c1, .slice B l.length c2] 25))
  have L1 := Lib.hid (bl_alloc L0.out (.cells #[.slice C b.length c3, .slice D m.length c4] 25))
  by_cases h : a = b
  · have HE := Lib.hid (show stEq a l b m = decide (l = m) by simp [stEq, h])
    have hd : decide (a = b) = true := by simp [h]
    clear h
    go_enter Try.func61, Try.ntmps61
    go_wp2_with (first
      | (go_at_call 104; refine (equalDots_any _ _ _ _ a b _ (HA.out.below L1.out) (HB.out.below L1.out)).mono ?_; rintro e w1 ⟨rfl, ⟨n, rfl⟩⟩)
      | (go_at_call 105; refine (equalSibs_any _ _ _ _ l m _ ((HL.out.below L1.out).drewN _) ((HM.out.below L1.out).drewN _)).mono ?_; rintro e w1 ⟨rfl, ⟨n2, rfl⟩⟩))
    go_ret
    exact ⟨ret_bool HE.out.symm, (by repeat (first | exact Below.refl _ _ | refine bl_drewN ?_ _ | refine bl_drew ?_ | refine bl_alloc ?_ _))⟩
  · have HE := Lib.hid (show stEq a l b m = false by simp [stEq, h])
    have hd : decide (a = b) = false := by simp [h]
    clear h
    go_enter Try.func61, Try.ntmps61
    go_wp2_with (first
      | (go_at_call 104; refine (equalDots_any _ _ _ _ a b _ (HA.out.below L1.out) (HB.out.below L1.out)).mono ?_; rintro e w1 ⟨rfl, ⟨n, rfl⟩⟩))
    go_ret
    exact ⟨ret_bool HE.out.symm, (by repeat (first | exact Below.refl _ _ | refine bl_drewN ?_ _ | refine bl_drew ?_ | refine bl_alloc ?_ _))⟩
set_option maxRecDepth 100000 in
set_option maxHeartbeats 3200000 in
theorem refSame_any (A B C D : Option Addr) (c1 c2 c3 c4 : Nat) (a b : List Dot) (l m : List Sib) (w : World) (ha : GR.Rd dotK w A a) (hl : GR.Rd sibK w B l) (hb : GR.Rd dotK w C b) (hm : GR.Rd sibK w D m) :
    Calls Try.prog 99 #[.agg #[.slice A a.length c1, .slice B l.length c2], .agg #[.slice C b.length c3, .slice D m.length c4]] w fun e w' => e = .returned (.bool (stEq a l b m)) ∧ Below w.heap.size w w' := by
  have h1 : l.length * 40 ≤ 140737488355328 := hl.max
  have h2 : m.length * 40 ≤ 140737488355328 := hm.max
  have HA := Lib.hid ha
  have HL := Lib.hid hl
  have HB := Lib.hid hb
  have HM := Lib.hid hm
  clear ha hl hb hm
  have L0 := Lib.hid ((Below.refl w.heap.size w).alloc (Nat.le_refl _) (.cells #[.slice A a.length c1, .slice B l.length c2] 25))
  have L1 := Lib.hid (bl_alloc L0.out (.cells #[.slice C b.length c3, .slice D m.length c4] 25))
  by_cases h : a = b
  · have hd : decide (a = b) = true := by simp [h]
    have HE := Lib.hid (show stEq a l b m = decide (l = m) by simp [stEq, h])
    clear h
    by_cases hn : l.length = m.length
    · have b0 : (l.length != m.length) = false := by simp [hn]
      have b1 : ((l.length : Int) != (m.length : Int)) = false := by simp [hn]
      have HN := Lib.hid hn
      clear hn
      go_enter Try.func99, Try.ntmps99
      go_wp2_with (go_at_call 125; refine (sameDots_any _ _ _ _ a b _ (HA.out.below L1.out) (HB.out.below L1.out)).mono ?_; rintro e w1 ⟨rfl, ⟨n, rfl⟩⟩)
      go_loopw [5] (fun i w' => ∃ k : Nat, k ≤ l.length ∧ i = .int .i64 k ∧ Hid (l.take k = m.take k) ∧ Hid (Drawn ((w.alloc (.cells #[.slice A a.length c1, .slice B l.length c2] 25)).alloc (.cells #[.slice C b.length c3, .slice D m.length c4] 25)) w')) (fun i _ => l.length - (intOf i).toNat)
      case atStart => exact ⟨0, Nat.zero_le _, rfl, Lib.hid (by simp), Lib.hid ((Drawn.refl _).drewN _)⟩
      case round =>
        obtain ⟨k, hk, rfl, hsame, hw⟩ := hrel
        obtain ⟨nd, ed⟩ := hw.out
        subst ed
        by_cases hlt : k < l.length
        · have hlt2 : k < m.length := by have := HN.out; omega
          have i0 : (0 : Int) ≤ (k : Int) := by omega
          have i1 : (k : Int) < (l.length : Int) := by omega
          have i2 : (k : Int) < (m.length : Int) := by omega
          obtain ⟨ad, rfl, hb1, x0, x1, x2, x3⟩ := sib_at HL.out k hlt
          obtain ⟨bd, rfl, hb2, y0, y1, y2, y3⟩ := sib_at HM.out k hlt2
          by_cases hq : l[k] = m[k]
          · have q0 : sEq l[k].d.a l[k].d.n l[k].gone l[k].v m[k].d.a m[k].d.n m[k].gone m[k].v = true := by rw [hq]; simp [dEq, sEq]
            have HQ := Lib.hid hq
            clear hq
            go_wp2
            go_quiet (fail)
            go_wp2
            go_roundw
            case rel => exact ⟨k + 1, by omega, by go_num, Lib.hid (by rw [List.take_succ_eq_append_getElem hlt, List.take_succ_eq_append_getElem hlt2, hsame.out, HQ.out]), Lib.hid ⟨_, rfl⟩⟩
            case measure => simp [intOf]; omega
          · have HV := Lib.hid (show decide (l = m) = false by simp; intro e; subst e; exact hq rfl)
            have q0 : sEq l[k].d.a l[k].d.n l[k].gone l[k].v m[k].d.a m[k].d.n m[k].gone m[k].v = false := by
              rw [Bool.eq_false_iff]
              intro h
              exact hq (sEq_iff.1 h)
            clear hq
            go_wp2
            go_quiet (fail)
            go_wp2
            go_ret
            exact ⟨ret_bool (by rw [HE.out, HV.out]), (by repeat (first | exact Below.refl _ _ | refine bl_drewN ?_ _ | refine bl_drew ?_ | refine bl_alloc ?_ _))⟩
        · obtain rfl : k = l.length := by omega
          have HV := Lib.hid (show decide (l = m) = true by
            have := hsame.out
            rw [List.take_length, HN.out, List.take_length] at this
            simpa using this)
          have hge : ¬ ((l.length : Int) < (l.length : Int)) := by omega
          clear hge
          go_wp2
          go_ret
          exact ⟨ret_bool (by rw [HE.out, HV.out]), (by repeat (first | exact Below.refl _ _ | refine bl_drewN ?_ _ | refine bl_drew ?_ | refine bl_alloc ?_ _))⟩
    · have HV := Lib.hid (show decide (l = m) = false by simp; intro e; exact hn (by rw [e]))
      have b0 : (l.length != m.length) = true := by simpa using hn
      have b1 : ((l.length : Int) != (m.length : Int)) = true := by simp; omega
      clear hn
      go_enter Try.func99, Try.ntmps99
      go_wp2_with (go_at_call 125; refine (sameDots_any _ _ _ _ a b _ (HA.out.below L1.out) (HB.out.below L1.out)).mono ?_; rintro e w1 ⟨rfl, ⟨n, rfl⟩⟩)
      go_ret
      exact ⟨ret_bool (by rw [HE.out, HV.out]), (by repeat (first | exact Below.refl _ _ | refine bl_drewN ?_ _ | refine bl_drew ?_ | refine bl_alloc ?_ _))⟩
  · have HE := Lib.hid (show stEq a l b m = false by simp [stEq, h])
    have hd : decide (a = b) = false := by simp [h]
    clear h
    go_enter Try.func99, Try.ntmps99
    go_wp2_with (go_at_call 125; refine (sameDots_any _ _ _ _ a b _ (HA.out.below L1.out) (HB.out.below L1.out)).mono ?_; rintro e w1 ⟨rfl, ⟨n, rfl⟩⟩)
    go_ret
    exact ⟨ret_bool HE.out.symm, (by repeat (first | exact Below.refl _ _ | refine bl_drewN ?_ _ | refine bl_drew ?_ | refine bl_alloc ?_ _))⟩
end Go.Proofs.Ytljfigikkajlnaa
