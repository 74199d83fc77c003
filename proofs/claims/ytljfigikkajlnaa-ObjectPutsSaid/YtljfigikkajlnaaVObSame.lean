/- DERIVED. Chapter 13's own sameDots and same. -/
import Derived.Test.YtljfigikkajlnaaVm11
namespace Go.Proofs.Ytljfigikkajlnaa
open Go.RowKit Go.Proofs.YtljfigikkajlnaaW.PrintWords
set_option linter.unusedVariables false
set_option linter.unusedSimpArgs false
attribute [local go_sem high] eqD eqS
set_option maxRecDepth 100000 in
set_option maxHeartbeats 1600000 in
theorem lsameDots_any (A B : Option Addr) (c d : Nat) (l m : List Dot) (w : World) (hl : GR.Rd dotK w A l) (hm : GR.Rd dotK w B m) :
    Calls Try.prog 18 #[.slice A l.length c, .slice B m.length d] w fun e w' => e = .returned (.bool (decide (l = m))) ∧ Drawn w w' := by
  have h1 : l.length * 16 ≤ 140737488355328 := hl.max
  have h2 : m.length * 16 ≤ 140737488355328 := hm.max
  have HL := Lib.hid hl
  have HM := Lib.hid hm
  clear hl hm
  by_cases hn : l.length = m.length
  · have b0 : (l.length != m.length) = false := by simp [hn]
    have b1 : ((l.length : Int) != (m.length : Int)) = false := by simp [hn]
    have HN := Lib.hid hn
    clear hn
    go_enter Try.func18, Try.ntmps18
    go_wp2
    go_loopw [5] (fun i w' => ∃ k : Nat, k ≤ l.length ∧ i = .int .i64 k ∧ Hid (l.take k = m.take k) ∧ Hid (Drawn w w')) (fun i _ => l.length - (intOf i).toNat)
    case atStart => exact ⟨0, Nat.zero_le _, rfl, Lib.hid (by simp), Lib.hid (Drawn.refl w)⟩
    case round =>
      obtain ⟨k, hk, rfl, hsame, hw⟩ := hrel
      have hL1 := HL.out.below (hw.out.below w.heap.size)
      have hM1 := HM.out.below (hw.out.below w.heap.size)
      by_cases hlt : k < l.length
      · have hlt2 : k < m.length := by have := HN.out; omega
        have i0 : (0 : Int) ≤ (k : Int) := by omega
        have i1 : (k : Int) < (l.length : Int) := by omega
        have i2 : (k : Int) < (m.length : Int) := by omega
        obtain ⟨ad, rfl, hb1, c0, c1⟩ := dot_at hL1 k hlt
        obtain ⟨bd, rfl, hb2, d0, d1⟩ := dot_at hM1 k hlt2
        clear hL1 hM1 hb1 hb2
        by_cases hq : l[k] = m[k]
        · have q0 : dEq l[k].a l[k].n m[k].a m[k].n = true := by rw [hq]; simp [dEq, sEq]
          have HQ := Lib.hid hq
          clear hq
          go_wp2
          go_quiet (fail)
          go_wp2
          go_roundw
          case rel => exact ⟨k + 1, by omega, by go_num, Lib.hid (by rw [List.take_succ_eq_append_getElem hlt, List.take_succ_eq_append_getElem hlt2, hsame.out, HQ.out]), Lib.hid (hw.out.drewN _)⟩
          case measure => simp [intOf]; omega
        · have HV := Lib.hid (show decide (l = m) = false by simp; intro e; subst e; exact hq rfl)
          have q0 : dEq l[k].a l[k].n m[k].a m[k].n = false := by
            rw [Bool.eq_false_iff]
            intro h
            exact hq (dEq_iff.1 h)
          clear hq
          go_wp2
          go_quiet (fail)
          go_wp2
          go_ret
          exact ⟨ret_bool HV.out.symm, hw.out.drewN _⟩
      · obtain rfl : k = l.length := by omega
        have HV := Lib.hid (show decide (l = m) = true by
          have := hsame.out
          rw [List.take_length, HN.out, List.take_length] at this
          simpa using this)
        go_wp2
        go_ret
        exact ⟨ret_bool HV.out.symm, hw.out⟩
  · have HV := Lib.hid (show decide (l = m) = false by simp; intro e; exact hn (by rw [e]))
    have b0 : (l.length != m.length) = true := by simpa using hn
    have b1 : ((l.length : Int) != (m.length : Int)) = true := by simp; omega
    clear hn
    go_enter Try.func18, Try.ntmps18
    go_wp2
    go_ret
    exact ⟨ret_bool HV.out.symm, Drawn.refl _⟩
set_option maxRecDepth 100000 in
set_option maxHeartbeats 3200000 in
theorem lsame_key (key : ByteArray) (A B C D : Option Addr) (c1 c2 c3 c4 : Nat) (a b : List Dot) (l m : List Sib) (w : World) (ha : GR.Rd dotK w A a) (hl : GR.Rd sibK w B l) (hb : GR.Rd dotK w C b) (hm : GR.Rd sibK w D m) :
    Calls Try.prog 19 #[.agg #[.string key, .slice A a.length c1, .slice B l.length c2], .agg #[.string key, .slice C b.length c3, .slice D m.length c4]] w fun e w' => e = .returned (.bool (stEq a l b m)) ∧ Below w.heap.size w w' := by
  have h1 : l.length * 40 ≤ 140737488355328 := hl.max
  have h2 : m.length * 40 ≤ 140737488355328 := hm.max
  have HA := Lib.hid ha
  have HL := Lib.hid hl
  have HB := Lib.hid hb
  have HM := Lib.hid hm
  clear ha hl hb hm
  have kk : (key.toList == key.toList) = true := by simp
  have L0 := Lib.hid ((Below.refl w.heap.size w).alloc (Nat.le_refl _) (.cells #[.string key, .slice A a.length c1, .slice B l.length c2] 27))
  have L1 := Lib.hid (bl_alloc L0.out (.cells #[.string key, .slice C b.length c3, .slice D m.length c4] 27))
  by_cases h : a = b
  · have hd : decide (a = b) = true := by simp [h]
    have HE := Lib.hid (show stEq a l b m = decide (l = m) by simp [stEq, h])
    clear h
    by_cases hn : l.length = m.length
    · have b0 : (l.length != m.length) = false := by simp [hn]
      have b1 : ((l.length : Int) != (m.length : Int)) = false := by simp [hn]
      have HN := Lib.hid hn
      clear hn
      go_enter Try.func19, Try.ntmps19
      go_wp2_with (go_at_call 18; refine (lsameDots_any _ _ _ _ a b _ (HA.out.below L1.out) (HB.out.below L1.out)).mono ?_; rintro e w1 ⟨rfl, ⟨n, rfl⟩⟩)
      go_loopw [5] (fun i w' => ∃ k : Nat, k ≤ l.length ∧ i = .int .i64 k ∧ Hid (l.take k = m.take k) ∧ Hid (Drawn ((w.alloc (.cells #[.string key, .slice A a.length c1, .slice B l.length c2] 27)).alloc (.cells #[.string key, .slice C b.length c3, .slice D m.length c4] 27)) w')) (fun i _ => l.length - (intOf i).toNat)
      case atStart => exact ⟨0, Nat.zero_le _, rfl, Lib.hid (by simp), Lib.hid ((Drawn.refl _).drewN _)⟩
      case round =>
        obtain ⟨k, hk, rfl, hsame, hw⟩ := hrel
        obtain ⟨nd, ed⟩ := hw.out
        subst ed
        by_cases hlt : k < l.length
        · have hlt2 : k < m.length := by have := HN.out; omega
          have i0 : (0 : Int) ≤ (k : Int) := by omega
          have i1 : (k : Int) < (l.length : Int) := by omega
          have i2 : (k : Int) < (m.length : Int) := by omega
          obtain ⟨ad, rfl, hb1, x0, x1, x2, x3⟩ := sib_at HL.out k hlt
          obtain ⟨bd, rfl, hb2, y0, y1, y2, y3⟩ := sib_at HM.out k hlt2
          by_cases hq : l[k] = m[k]
          · have q0 : sEq l[k].d.a l[k].d.n l[k].gone l[k].v m[k].d.a m[k].d.n m[k].gone m[k].v = true := by rw [hq]; simp [dEq, sEq]
            have HQ := Lib.hid hq
            clear hq
            go_wp2
            go_quiet (fail)
            go_wp2
            go_roundw
            case rel => exact ⟨k + 1, by omega, by go_num, Lib.hid (by rw [List.take_succ_eq_append_getElem hlt, List.take_succ_eq_append_getElem hlt2, hsame.out, HQ.out]), Lib.hid ⟨_, rfl⟩⟩
            case measure => simp [intOf]; omega
          · have HV := Lib.hid (show decide (l = m) = false by simp; intro e; subst e; exact hq rfl)
            have q0 : sEq l[k].d.a l[k].d.n l[k].gone l[k].v m[k].d.a m[k].d.n m[k].gone m[k].v = false := by
              rw [Bool.eq_false_iff]
              intro h
              exact hq (sEq_iff.1 h)
            clear hq
            go_wp2
            go_quiet (fail)
            go_wp2
            go_ret
            exact ⟨ret_bool (by rw [HE.out, HV.out]), (by repeat (first | exact Below.refl _ _ | refine bl_drewN ?_ _ | refine bl_drew ?_ | refine bl_alloc ?_ _))⟩
        · obtain rfl : k = l.length := by omega
          have HV := Lib.hid (show decide (l = m) = true by
            have := hsame.out
            rw [List.take_length, HN.out, List.take_length] at this
            simpa using this)
          have hge : ¬ ((l.length : Int) < (l.length : Int)) := by omega
          clear hge
          go_wp2
          go_ret
          exact ⟨ret_bool (by rw [HE.out, HV.out]), (by repeat (first | exact Below.refl _ _ | refine bl_drewN ?_ _ | refine bl_drew ?_ | refine bl_alloc ?_ _))⟩
    · have HV := Lib.hid (show decide (l = m) = false by simp; intro e; exact hn (by rw [e]))
      have b0 : (l.length != m.length) = true := by simpa using hn
      have b1 : ((l.length : Int) != (m.length : Int)) = true := by simp; omega
      clear hn
      go_enter Try.func19, Try.ntmps19
      go_wp2_with (go_at_call 18; refine (lsameDots_any _ _ _ _ a b _ (HA.out.below L1.out) (HB.out.below L1.out)).mono ?_; rintro e w1 ⟨rfl, ⟨n, rfl⟩⟩)
      go_ret
      exact ⟨ret_bool (by rw [HE.out, HV.out]), (by repeat (first | exact Below.refl _ _ | refine bl_drewN ?_ _ | refine bl_drew ?_ | refine bl_alloc ?_ _))⟩
  · have HE := Lib.hid (show stEq a l b m = false by simp [stEq, h])
    have hd : decide (a = b) = false := by simp [h]
    clear h
    go_enter Try.func19, Try.ntmps19
    go_wp2_with (go_at_call 18; refine (lsameDots_any _ _ _ _ a b _ (HA.out.below L1.out) (HB.out.below L1.out)).mono ?_; rintro e w1 ⟨rfl, ⟨n, rfl⟩⟩)
    go_ret
    exact ⟨ret_bool HE.out.symm, (by repeat (first | exact Below.refl _ _ | refine bl_drewN ?_ _ | refine bl_drew ?_ | refine bl_alloc ?_ _))⟩
theorem lsame_ne (k1 k2 : ByteArray) (hk : k1 ≠ k2) (A B C D : Option Addr) (c1 c2 c3 c4 n1 n2 n3 n4 : Nat) (w : World) :
    Calls Try.prog 19 #[.agg #[.string k1, .slice A n1 c1, .slice B n2 c2], .agg #[.string k2, .slice C n3 c3, .slice D n4 c4]] w fun e w' => e = .returned (.bool false) ∧ Below w.heap.size w w' := by
  have kk : (k1.toList == k2.toList) = false := by rw [str_eq]; simpa using hk
  clear hk
  go_enter Try.func19, Try.ntmps19
  go_wp2
  go_ret
  exact ⟨rfl, (by repeat (first | exact Below.refl _ _ | refine bl_drewN ?_ _ | refine bl_drew ?_ | refine bl_alloc ?_ _))⟩
theorem lsame_any (k1 k2 : ByteArray) (A B C D : Option Addr) (c1 c2 c3 c4 n1 n2 n3 n4 : Nat) (a b : List Dot) (l m : List Sib) (r : Bool) (w : World) (ha : GR.Rd dotK w A a) (hl : GR.Rd sibK w B l) (hb : GR.Rd dotK w C b) (hm : GR.Rd sibK w D m) (h1 : n1 = a.length) (h2 : n2 = l.length) (h3 : n3 = b.length) (h4 : n4 = m.length) (hr : (decide (k1 = k2) && stEq a l b m) = r) :
    Calls Try.prog 19 #[.agg #[.string k1, .slice A n1 c1, .slice B n2 c2], .agg #[.string k2, .slice C n3 c3, .slice D n4 c4]] w fun e w' => e = .returned (.bool r) ∧ Below w.heap.size w w' := by
  subst h1 h2 h3 h4 hr
  by_cases hk : k1 = k2
  · subst hk
    rw [show (decide (k1 = k1) && stEq a l b m) = stEq a l b m by simp]
    exact lsame_key k1 A B C D c1 c2 c3 c4 a b l m w ha hl hb hm
  · rw [decide_eq_false hk, Bool.false_and]
    exact lsame_ne k1 k2 hk A B C D c1 c2 c3 c4 _ _ _ _ w
end Go.Proofs.Ytljfigikkajlnaa
