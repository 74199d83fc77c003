/- DERIVED. Chapter 13's own sameDots and same. Chapter 13's own helper spoil: writes into an object's lists, and grows them. ObjectCells: the walk of the law. (Several texts in one: ObSame, ObSpoil, ObCellsW.) -/
import Derived.Test.YtljfigikkajlnaaDvSame
import Derived.Test.YtljfigikkajlnaaDvOver
import Derived.Test.YtljfigikkajlnaaDvHS
import Derived.Test.YtljfigikkajlnaaDvSt
import Derived.Test.YtljfigikkajlnaaDvTwin
import Derived.Test.YtljfigikkajlnaaMrOb
namespace Go.Proofs.Ytljfigikkajlnaa
open Go.RowKit Go.Proofs.YtljfigikkajlnaaW.PrintWords
set_option linter.unusedVariables false
set_option linter.unusedSimpArgs false
attribute [local go_sem high] eqD eqS

set_option maxRecDepth 100000 in
set_option maxHeartbeats 1600000 in
theorem lsameDots_any (A B : Option Addr) (c d : Nat) (l m : List Dot) (w : World) (hl : GR.Rd dotK w A l) (hm : GR.Rd dotK w B m) :
    Calls Try.prog 18 #[.slice A l.length c, .slice B m.length d] w fun e w' => e = .returned (.bool (decide (l = m))) ∧ Drawn w w' := by
  have h1 : l.length * 16 ≤ 140737488355328 := hl.max
  have h2 : m.length * 16 ≤ 140737488355328 := hm.max
  have HL := Lib.hid hl
  have HM := Lib.hid hm
  clear hl hm
  by_cases hn : l.length = m.length
  · have b0 : (l.length != m.length) = false := by simp [hn]
    have b1 : ((l.length : Int) != (m.length : Int)) = false := by simp [hn]
    have HN := Lib.hid hn
    clear hn
    go_enter Try.func18, Try.ntmps18
    go_wp2
    go_loopw [5] (fun i w' => ∃ k : Nat, k ≤ l.length ∧ i = .int .i64 k ∧ Hid (l.take k = m.take k) ∧ Hid (Drawn w w')) (fun i _ => l.length - (intOf i).toNat)
    case atStart => exact ⟨0, Nat.zero_le _, rfl, Lib.hid (by simp), Lib.hid (Drawn.refl w)⟩
    case round =>
      obtain ⟨k, hk, rfl, hsame, hw⟩ := hrel
      have hL1 := HL.out.below (hw.out.below w.heap.size)
      have hM1 := HM.out.below (hw.out.below w.heap.size)
      by_cases hlt : k < l.length
      · have hlt2 : k < m.length := by have := HN.out; omega
        have i0 : (0 : Int) ≤ (k : Int) := by omega
        have i1 : (k : Int) < (l.length : Int) := by omega
        have i2 : (k : Int) < (m.length : Int) := by omega
        obtain ⟨ad, rfl, hb1, c0, c1⟩ := dot_at hL1 k hlt
        obtain ⟨bd, rfl, hb2, d0, d1⟩ := dot_at hM1 k hlt2
        clear hL1 hM1 hb1 hb2
        by_cases hq : l[k] = m[k]
        · have q0 : dEq l[k].a l[k].n m[k].a m[k].n = true := by rw [hq]; simp [dEq, sEq]
          have HQ := Lib.hid hq
          clear hq
          go_wp2
          go_quiet (fail)
          go_wp2
          go_roundw
          case rel => exact ⟨k + 1, by omega, by go_num, Lib.hid (by rw [List.take_succ_eq_append_getElem hlt, List.take_succ_eq_append_getElem hlt2, hsame.out, HQ.out]), Lib.hid (hw.out.drewN _)⟩
          case measure => simp [intOf]; omega
        · have HV := Lib.hid (show decide (l = m) = false by simp; intro e; subst e; exact hq rfl)
          have q0 : dEq l[k].a l[k].n m[k].a m[k].n = false := by
            rw [Bool.eq_false_iff]
            intro h
            exact hq (dEq_iff.1 h)
          clear hq
          go_wp2
          go_quiet (fail)
          go_wp2
          go_ret
          exact ⟨ret_bool HV.out.symm, hw.out.drewN _⟩
      · obtain rfl : k = l.length := by omega
        have HV := Lib.hid (show decide (l = m) = true by
          have := hsame.out
          rw [List.take_length, HN.out, List.take_length] at this
          simpa using this)
        go_wp2
        go_ret
        exact ⟨ret_bool HV.out.symm, hw.out⟩
  · have HV := Lib.hid (show decide (l = m) = false by simp; intro e; exact hn (by rw [e]))
    have b0 : (l.length != m.length) = true := by simpa using hn
    have b1 : ((l.length : Int) != (m.length : Int)) = true := by simp; omega
    clear hn
    go_enter Try.func18, Try.ntmps18
    go_wp2
    go_ret
    exact ⟨ret_bool HV.out.symm, Drawn.refl _⟩

set_option maxRecDepth 100000 in
set_option maxHeartbeats 3200000 in
theorem lsame_key (key : ByteArray) (A B C D : Option Addr) (c1 c2 c3 c4 : Nat) (a b : List Dot) (l m : List Sib) (w : World) (ha : GR.Rd dotK w A a) (hl : GR.Rd sibK w B l) (hb : GR.Rd dotK w C b) (hm : GR.Rd sibK w D m) :
    Calls Try.prog 19 #[.agg #[.string key, .slice A a.length c1, .slice B l.length c2], .agg #[.string key, .slice C b.length c3, .slice D m.length c4]] w fun e w' => e = .returned (.bool (stEq a l b m)) ∧ Below w.heap.size w w' := by
  have h1 : l.length * 40 ≤ 140737488355328 := hl.max
  have h2 : m.length * 40 ≤ 140737488355328 := hm.max
  have HA := Lib.hid ha
  have HL := Lib.hid hl
  have HB := Lib.hid hb
  have HM := Lib.hid hm
  clear ha hl hb hm
  have kk : (key.toList == key.toList) = true := by simp
  have L0 := Lib.hid ((Below.refl w.heap.size w).alloc (Nat.le_refl _) (.cells #[.string key, .slice A a.length c1, .slice B l.length c2] 27))
  have L1 := Lib.hid (bl_alloc L0.out (.cells #[.string key, .slice C b.length c3, .slice D m.length c4] 27))
  by_cases h : a = b
  · have hd : decide (a = b) = true := by simp [h]
    have HE := Lib.hid (show stEq a l b m = decide (l = m) by simp [stEq, h])
    clear h
    by_cases hn : l.length = m.length
    · have b0 : (l.length != m.length) = false := by simp [hn]
      have b1 : ((l.length : Int) != (m.length : Int)) = false := by simp [hn]
      have HN := Lib.hid hn
      clear hn
      go_enter Try.func19, Try.ntmps19
      go_wp2_with (go_at_call 18; refine (lsameDots_any _ _ _ _ a b _ (HA.out.below L1.out) (HB.out.below L1.out)).mono ?_; rintro e w1 ⟨rfl, ⟨n, rfl⟩⟩)
      go_loopw [5] (fun i w' => ∃ k : Nat, k ≤ l.length ∧ i = .int .i64 k ∧ Hid (l.take k = m.take k) ∧ Hid (Drawn ((w.alloc (.cells #[.string key, .slice A a.length c1, .slice B l.length c2] 27)).alloc (.cells #[.string key, .slice C b.length c3, .slice D m.length c4] 27)) w')) (fun i _ => l.length - (intOf i).toNat)
      case atStart => exact ⟨0, Nat.zero_le _, rfl, Lib.hid (by simp), Lib.hid ((Drawn.refl _).drewN _)⟩
      case round =>
        obtain ⟨k, hk, rfl, hsame, hw⟩ := hrel
        obtain ⟨nd, ed⟩ := hw.out
        subst ed
        by_cases hlt : k < l.length
        · have hlt2 : k < m.length := by have := HN.out; omega
          have i0 : (0 : Int) ≤ (k : Int) := by omega
          have i1 : (k : Int) < (l.length : Int) := by omega
          have i2 : (k : Int) < (m.length : Int) := by omega
          obtain ⟨ad, rfl, hb1, x0, x1, x2, x3⟩ := sib_at HL.out k hlt
          obtain ⟨bd, rfl, hb2, y0, y1, y2, y3⟩ := sib_at HM.out k hlt2
          by_cases hq : l[k] = m[k]
          · have q0 : sEq l[k].d.a l[k].d.n l[k].gone l[k].v m[k].d.a m[k].d.n m[k].gone m[k].v = true := by rw [hq]; simp [dEq, sEq]
            have HQ := Lib.hid hq
            clear hq
            go_wp2
            go_quiet (fail)
            go_wp2
            go_roundw
            case rel => exact ⟨k + 1, by omega, by go_num, Lib.hid (by rw [List.take_succ_eq_append_getElem hlt, List.take_succ_eq_append_getElem hlt2, hsame.out, HQ.out]), Lib.hid ⟨_, rfl⟩⟩
            case measure => simp [intOf]; omega
          · have HV := Lib.hid (show decide (l = m) = false by simp; intro e; subst e; exact hq rfl)
            have q0 : sEq l[k].d.a l[k].d.n l[k].gone l[k].v m[k].d.a m[k].d.n m[k].gone m[k].v = false := by
              rw [Bool.eq_false_iff]
              intro h
              exact hq (sEq_iff.1 h)
            clear hq
            go_wp2
            go_quiet (fail)
            go_wp2
            go_ret
            exact ⟨ret_bool (by rw [HE.out, HV.out]), (by repeat (first | exact Below.refl _ _ | refine bl_drewN ?_ _ | refine bl_drew ?_ | refine bl_alloc ?_ _))⟩
        · obtain rfl : k = l.length := by omega
          have HV := Lib.hid (show decide (l = m) = true by
            have := hsame.out
            rw [List.take_length, HN.out, List.take_length] at this
            simpa using this)
          have hge : ¬ ((l.length : Int) < (l.length : Int)) := by omega
          clear hge
          go_wp2
          go_ret
          exact ⟨ret_bool (by rw [HE.out, HV.out]), (by repeat (first | exact Below.refl _ _ | refine bl_drewN ?_ _ | refine bl_drew ?_ | refine bl_alloc ?_ _))⟩
    · have HV := Lib.hid (show decide (l = m) = false by simp; intro e; exact hn (by rw [e]))
      have b0 : (l.length != m.length) = true := by simpa using hn
      have b1 : ((l.length : Int) != (m.length : Int)) = true := by simp; omega
      clear hn
      go_enter Try.func19, Try.ntmps19
      go_wp2_with (go_at_call 18; refine (lsameDots_any _ _ _ _ a b _ (HA.out.below L1.out) (HB.out.below L1.out)).mono ?_; rintro e w1 ⟨rfl, ⟨n, rfl⟩⟩)
      go_ret
      exact ⟨ret_bool (by rw [HE.out, HV.out]), (by repeat (first | exact Below.refl _ _ | refine bl_drewN ?_ _ | refine bl_drew ?_ | refine bl_alloc ?_ _))⟩
  · have HE := Lib.hid (show stEq a l b m = false by simp [stEq, h])
    have hd : decide (a = b) = false := by simp [h]
    clear h
    go_enter Try.func19, Try.ntmps19
    go_wp2_with (go_at_call 18; refine (lsameDots_any _ _ _ _ a b _ (HA.out.below L1.out) (HB.out.below L1.out)).mono ?_; rintro e w1 ⟨rfl, ⟨n, rfl⟩⟩)
    go_ret
    exact ⟨ret_bool HE.out.symm, (by repeat (first | exact Below.refl _ _ | refine bl_drewN ?_ _ | refine bl_drew ?_ | refine bl_alloc ?_ _))⟩
theorem lsame_ne (k1 k2 : ByteArray) (hk : k1 ≠ k2) (A B C D : Option Addr) (c1 c2 c3 c4 n1 n2 n3 n4 : Nat) (w : World) :
    Calls Try.prog 19 #[.agg #[.string k1, .slice A n1 c1, .slice B n2 c2], .agg #[.string k2, .slice C n3 c3, .slice D n4 c4]] w fun e w' => e = .returned (.bool false) ∧ Below w.heap.size w w' := by
  have kk : (k1.toList == k2.toList) = false := by rw [str_eq]; simpa using hk
  clear hk
  go_enter Try.func19, Try.ntmps19
  go_wp2
  go_ret
  exact ⟨rfl, (by repeat (first | exact Below.refl _ _ | refine bl_drewN ?_ _ | refine bl_drew ?_ | refine bl_alloc ?_ _))⟩
theorem lsame_any (k1 k2 : ByteArray) (A B C D : Option Addr) (c1 c2 c3 c4 n1 n2 n3 n4 : Nat) (a b : List Dot) (l m : List Sib) (r : Bool) (w : World) (ha : GR.Rd dotK w A a) (hl : GR.Rd sibK w B l) (hb : GR.Rd dotK w C b) (hm : GR.Rd sibK w D m) (h1 : n1 = a.length) (h2 : n2 = l.length) (h3 : n3 = b.length) (h4 : n4 = m.length) (hr : (decide (k1 = k2) && stEq a l b m) = r) :
    Calls Try.prog 19 #[.agg #[.string k1, .slice A n1 c1, .slice B n2 c2], .agg #[.string k2, .slice C n3 c3, .slice D n4 c4]] w fun e w' => e = .returned (.bool r) ∧ Below w.heap.size w w' := by
  subst h1 h2 h3 h4 hr
  by_cases hk : k1 = k2
  · subst hk
    rw [show (decide (k1 = k1) && stEq a l b m) = stEq a l b m by simp]
    exact lsame_key k1 A B C D c1 c2 c3 c4 a b l m w ha hl hb hm
  · rw [decide_eq_false hk, Bool.false_and]
    exact lsame_ne k1 k2 hk A B C D c1 c2 c3 c4 _ _ _ _ w
end Go.Proofs.Ytljfigikkajlnaa

namespace Go.Proofs.Ytljfigikkajlnaa
open Go.RowKit
set_option linter.unusedVariables false
set_option linter.unusedSimpArgs false

def spD : Dot := ⟨8, 2251799813685248⟩
def spS (mark : ByteArray) : Sib := ⟨⟨0, 0⟩, false, mark⟩
set_option maxRecDepth 100000 in
set_option maxHeartbeats 6400000 in
theorem lspoil_any (B0 : Nat) (key mark : ByteArray) (u v : Value) (a : List Dot) (l : List Sib) (w : World) (ho : OwnS w B0 u v a l) (hB : B0 ≤ w.heap.size) (sa : a.length * 16 ≤ 140737488351232) (sl : l.length * 40 ≤ 140737488351232) :
    Calls Try.prog 14 #[.agg #[.string key, u, v], .string mark] w fun e w' => (∃ r, e = .returned (.int .i64 r) ∧ 40 ≤ r) ∧ Chg (rows2 u v) w w' := by
  obtain ⟨i0, hi0, hz0, hz1, hz2⟩ := info_parts dot_info
  obtain ⟨j0, hj0, jz0, jz1, jz2⟩ := info_parts sib_info
  obtain ⟨A, c, D, d, rfl, rfl, hac, hld, _, _⟩ := ho.sl (by omega) (by omega)
  have HO := Lib.hid ho
  clear ho
  go_enter Try.func14, Try.ntmps14
  go_wp2
  obtain ⟨W1, hW1⟩ : ∃ W1 : World, W1 = w.alloc (.cells #[.string key, .slice A a.length c, .slice D l.length d] 27) := ⟨_, rfl⟩
  rw [← hW1]
  have LW : Hid (Below w.heap.size w W1) := Lib.hid (by rw [hW1]; exact (by repeat (first | exact Below.refl _ _ | refine bl_drewN ?_ _ | refine bl_drew ?_ | refine bl_alloc ?_ _)))
  clear hW1
  have HO1 := Lib.hid (HO.out.below LW.out)
  go_loopw [7] (fun i w' => ∃ (k : Nat) (a' : List Dot), k ≤ a.length ∧ i = .int .i64 k ∧ Hid (a'.length = a.length) ∧ Hid (OwnS w' B0 (.slice A a.length c) (.slice D l.length d) a' l) ∧ Hid (Chg (rows2 (.slice A a.length c) (.slice D l.length d)) W1 w')) (fun i _ => a.length - (intOf i).toNat)
  case atStart => exact ⟨0, a, Nat.zero_le _, rfl, Lib.hid rfl, HO1, Lib.hid (Chg.refl _ _)⟩
  case round =>
    obtain ⟨k, a', hk, rfl, hla, ho, hc⟩ := hrel
    by_cases hlt : k < a.length
    · obtain ⟨g, cap, eg, _, _⟩ := own_lit ho.out.d a.length hla.out (by omega)
      have hA : A = some ⟨g, 0, none⟩ := by injection eg
      subst hA
      clear eg
      have hcell := GR.Own.cells ho.out.d k (by rw [hla.out]; exact hlt)
      obtain ⟨c0, f0⟩ := hcell 0 _ rfl
      obtain ⟨c1, f1⟩ := hcell 1 _ rfl
      replace c0 : wr.cell? ⟨g, k * 2, none⟩ = some _ := c0
      replace c1 : wr.cell? ⟨g, k * 2 + 1, none⟩ = some _ := c1
      replace f0 : wr.frozen? ⟨g, k * 2, none⟩ = false := f0
      replace f1 : wr.frozen? ⟨g, k * 2 + 1, none⟩ = false := f1
      have i0 : (0 : Int) ≤ (k : Int) := by omega
      have i1 : (k : Int) < (a.length : Int) := by omega
      clear hcell
      go_wp2
      go_roundw
      case rel => exact ⟨k + 1, _, by omega, by go_num, Lib.hid (by rw [List.length_set]; exact hla.out),
        Lib.hid ⟨ownd_set ho.out.d k (by rw [hla.out]; exact hlt) 8 2251799813685248, own_chg ho.out.s ((chg_set (S := fun i => i = g) _ _ (.inl rfl)).then (chg_set _ _ (.inl rfl))) (fun i hi e => own_ne ho.out.s ho.out.d (by decide) i hi (by rw [e]; rfl))⟩,
        Lib.hid ((hc.out.then (chg_set _ _ (.inl (.inl rfl)))).then (chg_set _ _ (.inl (.inl rfl))))⟩
      case measure => simp [intOf]; omega
    · obtain rfl : k = a.length := by omega
      go_wp2
      go_loopw [8] (fun i w' => ∃ (k : Nat) (l' : List Sib), k ≤ l.length ∧ i = .int .i64 k ∧ Hid (l'.length = l.length) ∧ Hid (OwnS w' B0 (.slice A a.length c) (.slice D l.length d) a' l') ∧ Hid (Chg (rows2 (.slice A a.length c) (.slice D l.length d)) W1 w')) (fun i _ => l.length - (intOf i).toNat)
      case atStart => exact ⟨0, l, Nat.zero_le _, rfl, Lib.hid rfl, ho, hc⟩
      case round =>
        obtain ⟨k, l', hk, rfl, hll, ho, hc⟩ := hrel
        by_cases hlt : k < l.length
        · obtain ⟨g, cap, eg, _, _⟩ := own_lit ho.out.s l.length hll.out (by omega)
          have hA : D = some ⟨g, 0, none⟩ := by injection eg
          subst hA
          clear eg
          have hcell := GR.Own.cells ho.out.s k (by rw [hll.out]; exact hlt)
          obtain ⟨c0, f0⟩ := hcell 0 _ rfl
          obtain ⟨c1, f1⟩ := hcell 1 _ rfl
          obtain ⟨c2, f2⟩ := hcell 2 _ rfl
          obtain ⟨c3, f3⟩ := hcell 3 _ rfl
          replace c0 : wr.cell? ⟨g, k * 4, none⟩ = some _ := c0
          replace c1 : wr.cell? ⟨g, k * 4 + 1, none⟩ = some _ := c1
          replace c2 : wr.cell? ⟨g, k * 4 + 2, none⟩ = some _ := c2
          replace c3 : wr.cell? ⟨g, k * 4 + 3, none⟩ = some _ := c3
          replace f0 : wr.frozen? ⟨g, k * 4, none⟩ = false := f0
          replace f1 : wr.frozen? ⟨g, k * 4 + 1, none⟩ = false := f1
          replace f2 : wr.frozen? ⟨g, k * 4 + 2, none⟩ = false := f2
          replace f3 : wr.frozen? ⟨g, k * 4 + 3, none⟩ = false := f3
          have i0 : (0 : Int) ≤ (k : Int) := by omega
          have i1 : (k : Int) < (l.length : Int) := by omega
          clear hcell
          go_wp2
          go_roundw
          case rel => exact ⟨k + 1, _, by omega, by go_num, Lib.hid (by rw [List.length_set]; exact hll.out),
            Lib.hid ⟨own_chg ho.out.d ((((chg_set (S := fun i => i = g) _ _ (.inl rfl)).then (chg_set _ _ (.inl rfl))).then (chg_set _ _ (.inl rfl))).then (chg_set _ _ (.inl rfl))) (fun i hi e => own_ne ho.out.d ho.out.s (by decide) i hi (by rw [e]; rfl)), owns_set ho.out.s k (by rw [hll.out]; exact hlt) 0 0 false mark⟩,
            Lib.hid ((((hc.out.then (chg_set _ _ (.inl (.inr rfl)))).then (chg_set _ _ (.inl (.inr rfl)))).then (chg_set _ _ (.inl (.inr rfl)))).then (chg_set _ _ (.inl (.inr rfl))))⟩
          case measure => simp [intOf]; omega
        · obtain rfl : k = l.length := by omega
          have HC2 := Lib.hid ((chg_bl LW.out).then hc.out)
          go_wp2
          go_loopw [5, 9] (fun x0 i w' => ∃ (x : Value) (k : Nat) (m : List Dot), x = x0 ∧ k ≤ 20 ∧ i = .int .i64 k ∧ Hid (m.length = a.length + k) ∧ Hid (OwnS w' B0 x (.slice D l.length d) m l') ∧ Hid (Chg (rows2 (.slice A a.length c) (.slice D l.length d)) w w') ∧
            Hid (∀ b, b < w.heap.size → x.ownBlock = some b → rows2 (.slice A a.length c) (.slice D l.length d) b)) (fun _ i _ => 20 - (intOf i).toNat)
          case atStart => exact ⟨_, 0, a', rfl, by omega, rfl, hla, ho, HC2, Lib.hid (fun _ _ h => .inl h)⟩
          case round =>
            obtain ⟨x, k, m, rfl, hk, rfl, hm, ho, hc, hr⟩ := hrel
            have hsz : w.heap.size ≤ wr.heap.size := hc.out.size
            have hBr : B0 ≤ wr.heap.size := Nat.le_trans hB hsz
            by_cases hlt : k < 20
            · go_wp2_with (at_builtin
                           refine GR.app_all (K := dotK) rfl (.tmp 42) (.tmp 44) _ rfl Try.underlying22 hi0 hz0 hz1 hz2 rfl B0 x m rfl (ho.out.d.alloc _) _ 1 1 [spD] rfl rfl (GR.rd_new (K := dotK) spD rfl (by show 16 ≤ 140737488355328; omega)) (by rw [hm.out]; show (a.length + k + 1) * 16 ≤ _; omega) (Nat.le_trans hBr (by simp)) ?_
                           intro v3 w3 ho3 hg3 hat3
                           have G3 : Hid (Chg (fun b => x.ownBlock = some b) wr w3) := Lib.hid ((chg_bl (by repeat (first | exact Below.refl _ _ | refine bl_drewN ?_ _ | refine bl_drew ?_ | refine bl_alloc ?_ _))).then (chg_grown hg3 (fun b hb _ => hb)))
                           have P3 := Lib.hid (own_chg ho.out.s G3.out (fun i hi h => own_ne ho.out.s ho.out.d (by decide) i hi h))
                           have HO3 := Lib.hid ho3
                           have HC3 := Lib.hid (hc.out.trans G3.out (fun i hi h => hr.out i hi h))
                           have HR3 : Hid (∀ b, b < w.heap.size → v3.ownBlock = some b → x.ownBlock = some b) := Lib.hid (fun b hb h => by
                             rcases hat3 with h1 | h1
                             · rw [← h1]; exact h
                             · rw [h1] at h; cases h; exact absurd hb (by simp; omega))
                           clear ho3 hg3 hat3)
              go_roundw
              case rel => exact ⟨_, k + 1, _, rfl, by omega, by go_num, Lib.hid (by rw [List.length_append, hm.out]; rfl), Lib.hid ⟨HO3.out, P3.out⟩, HC3, Lib.hid (fun b hb h => hr.out b hb (HR3.out b hb h))⟩
              case measure => simp [intOf]; omega
            · obtain rfl : k = 20 := by omega
              rw [show ((20 : Nat) : Int) = (20 : Int) from rfl]
              obtain ⟨A4, n4, c4, rfl⟩ := own_slice ho.out.d (by rw [hm.out]; show (a.length + 20) * 16 ≤ _; omega)
              have hn4 : n4 = a.length + 20 := by rw [own_n' ho.out.d, hm.out]
              have HN4 := Lib.hid hn4
              have HO5 := ho
              clear hn4
              go_wp2
              go_loopw [6, 10] (fun y0 i w' => ∃ (y : Value) (k : Nat) (n : List Sib), y = y0 ∧ k ≤ 20 ∧ i = .int .i64 k ∧ Hid (n.length = l.length + k) ∧ Hid (GR.Own sibK w' B0 y n) ∧ Hid (Chg (rows2 (.slice A a.length c) (.slice D l.length d)) w w') ∧
                Hid (∀ b, b < w.heap.size → y.ownBlock = some b → rows2 (.slice A a.length c) (.slice D l.length d) b)) (fun _ i _ => 20 - (intOf i).toNat)
              case atStart => exact ⟨_, 0, l', rfl, by omega, rfl, hll, Lib.hid ho.out.s, hc, Lib.hid (fun _ _ h => .inr h)⟩
              case round =>
                obtain ⟨y, k, n, rfl, hk, rfl, hn, ho, hc, hr⟩ := hrel
                have hsz : w.heap.size ≤ wr.heap.size := hc.out.size
                have hBr : B0 ≤ wr.heap.size := Nat.le_trans hB hsz
                by_cases hlt : k < 20
                · go_wp2_with (at_builtin
                               refine GR.app_all (K := sibK) rfl (.tmp 50) (.tmp 53) _ rfl Try.underlying23 hj0 jz0 jz1 jz2 rfl B0 y n rfl (ho.out.alloc _) _ 1 1 [spS mark] rfl rfl (GR.rd_new (K := sibK) (spS mark) rfl (by show 40 ≤ 140737488355328; omega)) (by rw [hn.out]; show (l.length + k + 1) * 40 ≤ _; omega) (Nat.le_trans hBr (by simp)) ?_
                               intro v4 w4 ho4 hg4 hat4
                               have G4 : Hid (Chg (fun b => y.ownBlock = some b) wr w4) := Lib.hid ((chg_bl (by repeat (first | exact Below.refl _ _ | refine bl_drewN ?_ _ | refine bl_drew ?_ | refine bl_alloc ?_ _))).then (chg_grown hg4 (fun b hb _ => hb)))
                               have HO4 := Lib.hid ho4
                               have HC4 := Lib.hid (hc.out.trans G4.out (fun i hi h => hr.out i hi h))
                               have HR4 : Hid (∀ b, b < w.heap.size → v4.ownBlock = some b → y.ownBlock = some b) := Lib.hid (fun b hb h => by
                                 rcases hat4 with h1 | h1
                                 · rw [← h1]; exact h
                                 · rw [h1] at h; cases h; exact absurd hb (by simp; omega))
                               clear ho4 hg4 hat4)
                  go_roundw
                  case rel => exact ⟨_, k + 1, _, rfl, by omega, by go_num, Lib.hid (by rw [List.length_append, hn.out]; rfl), HO4, HC4, Lib.hid (fun b hb h => hr.out b hb (HR4.out b hb h))⟩
                  case measure => simp [intOf]; omega
                · obtain rfl : k = 20 := by omega
                  obtain ⟨A5, n5, c5, rfl⟩ := own_slice ho.out (by rw [hn.out]; show (l.length + 20) * 40 ≤ _; omega)
                  have hn5 : n5 = l.length + 20 := by rw [own_n' ho.out, hn.out]
                  have hn4 := HN4.out
                  have e1 : IntKind.i64.wrap ((n4 : Int) + (n5 : Int)) = (n4 : Int) + (n5 : Int) := IntWalk.i64_in _ (by omega)
                  have HN5 := Lib.hid hn5
                  clear hn4 hn5
                  go_wp2
                  go_ret
                  exact ⟨⟨_, rfl, by have := HN4.out; have := HN5.out; omega⟩, hc.out⟩
end Go.Proofs.Ytljfigikkajlnaa

namespace Go.Proofs.Ytljfigikkajlnaa
open Go.RowKit Go.Lib
set_option linter.unusedVariables false
set_option linter.unusedSimpArgs false

theorem OwnS.blkO {w w' : World} {B g : Nat} {u v : Value} {a : List Dot} {l : List Sib} {cs : Array Value} (h : OwnS w B u v a l) (bg : GR.Blk w g 27 cs) (hc : Chg (rows2 u v) w w') : GR.Blk w' g 27 cs :=
  blk_chg bg hc fun hr => by
    rcases hr with hr | hr
    · exact GR.own_blk_ne h.d bg (by decide) hr
    · exact GR.own_blk_ne h.s bg (by decide) hr
theorem unp_lens (k v : ByteArray) : (unpA k v).length ≤ 64 ∧ (unpL k v).length ≤ 64 := by
  have := dec_lens v.data.toList
  unfold unpA unpL
  split
  · exact this
  · simp

set_option maxRecDepth 100000 in
set_option maxHeartbeats 25600000 in
theorem cells_walk (k v : ByteArray) (w : World) (hk : k.size ≤ 140737488355328) (hv : v.size ≤ 140737488355328) :
    Calls Try.prog 4 #[.agg #[.string k, .string v]] w fun e w' => e = .returned (.bool true) ∧ Below w.heap.size w w' := by
  have dl := unp_lens k v
  obtain ⟨K, hK⟩ : ∃ K, unpK k v = K := ⟨_, rfl⟩
  obtain ⟨P, hP⟩ : ∃ P, unpA k v = P := ⟨_, rfl⟩
  obtain ⟨Q, hQ⟩ : ∃ Q, unpL k v = Q := ⟨_, rfl⟩
  obtain ⟨x, hx⟩ : ∃ x, unpE k v = x := ⟨_, rfl⟩
  have HU := Lib.hid dunpack_any
  have HV : Hid (∀ w : World, Calls Try.prog 22 #[.agg #[.string k, .string v]] w fun e w' => ∃ v1 v2, e = .returned (.tuple #[.agg #[.string K, v1, v2], .int .i64 x]) ∧ OwnS w' w.heap.size v1 v2 P Q ∧ Below w.heap.size w w') := Lib.hid (fun w => by
    have := unpack_any k v w hk hv
    rw [hK, hP, hQ, hx] at this
    exact this)
  have HW : Hid (∀ w : World, Calls Try.prog 21 #[.agg #[.string k, .string v]] w fun e w' => ∃ v1 v2, e = .returned (.tuple #[.agg #[.string K, v1, v2], .int .i64 x]) ∧ OwnS w' w.heap.size v1 v2 P Q ∧ Below w.heap.size w w') := Lib.hid (fun w => by
    have := dunpack_any k v w hk hv
    rw [hK, hP, hQ, hx] at this
    exact this)
  rw [hP, hQ] at dl
  have jb1 : P.length * 16 ≤ 140737488355328 := by omega
  have jb2 : Q.length * 40 ≤ 140737488355328 := by omega
  clear hK hP hQ hx HU
  have ee : (x != x) = false := by simp
  go_enter Try.func4, Try.ntmps4
  go_wp2_with fail
  obtain ⟨W1, hW1⟩ : ∃ W1 : World, W1 = w.alloc (.cells #[.string k, .string v] 48) := ⟨_, rfl⟩
  rw [← hW1]
  have LW : Hid (Below w.heap.size w W1) := Lib.hid (by rw [hW1]; exact (by repeat (first | exact Below.refl _ _ | refine bl_drewN ?_ _ | refine bl_drew ?_ | refine bl_alloc ?_ _)))
  have XA : Hid (GR.Blk W1 w.heap.size 48 #[.string k, .string v]) := Lib.hid (by rw [hW1]; exact GR.Blk.new _ _ _)
  clear hW1
  have F1 := Lib.hid (HS.nil W1)
  have F2 := Lib.hid (HS.addB F1.out (g := w.heap.size) (t := 48) (cs := #[.string k, .string v]) (XA.out))
  clear F1
  clear XA
  have BB := LW
  refine (HW.out _).mono ?_
  rintro e w2 ⟨v1, v2, rfl, ho, hb⟩
  obtain ⟨A1, n1, k1, rfl⟩ := own_slice ho.d jb1
  obtain ⟨A2, n2, k2, rfl⟩ := own_slice ho.s jb2
  obtain rfl : n1 = P.length := own_n' ho.d
  obtain rfl : n2 = Q.length := own_n' ho.s
  have F3 := Lib.hid (F2.out.below hb)
  clear F2
  have F4 := Lib.hid (F3.out.addO (ho))
  clear F3
  have Rwant1 := Lib.hid (show ∀ k, rows2 (.slice A1 P.length k1) (.slice A2 Q.length k2) k → W1.heap.size ≤ k from ho.ge)
  have Rwant2 := Lib.hid (show ∀ k, rows2 (.slice A1 P.length k1) (.slice A2 Q.length k2) k → k < w2.heap.size from ho.lt)
  have Sw2 : W1.heap.size ≤ w2.heap.size := hb.size
  replace BB := Lib.hid (bl_then BB.out hb)
  clear ho hb
  have pa_0 : w2.cell? ⟨w.heap.size, 0, none⟩ = some (.string k) := (F4.out.blk 1 rfl).cell 0
  have pa_1 : w2.cell? ⟨w.heap.size, 1, none⟩ = some (.string v) := (F4.out.blk 1 rfl).cell 1
  have pa_lt : w.heap.size < w2.heap.size := (F4.out.blk 1 rfl).lt
  go_wp2_with fail
  obtain ⟨W3, hW3⟩ : ∃ W : World, W = w2.alloc (.cells #[.string K, .slice A1 P.length k1, .slice A2 Q.length k2] 27) := ⟨_, rfl⟩
  rw [← hW3]
  have LW3 : Hid (Below w2.heap.size w2 W3) := Lib.hid (by rw [hW3]; exact (by repeat (first | exact Below.refl _ _ | refine bl_drewN ?_ _ | refine bl_drew ?_ | refine bl_alloc ?_ _)))
  have XW3 : Hid (GR.Blk W3 w2.heap.size 27 #[.string K, .slice A1 P.length k1, .slice A2 Q.length k2]) := Lib.hid (by rw [hW3]; exact GR.Blk.new _ _ _)
  have SW3 : w2.heap.size < W3.heap.size := XW3.out.lt
  clear hW3
  clear pa_0 pa_1 pa_lt
  have F5 := Lib.hid (F4.out.below LW3.out)
  clear F4
  have F6 := Lib.hid (HS.addB F5.out (g := w2.heap.size) (t := 27) (cs := #[.string K, .slice A1 P.length k1, .slice A2 Q.length k2]) (XW3.out))
  clear F5
  replace BB := Lib.hid (bl_then BB.out LW3.out)
  refine (HV.out _).mono ?_
  rintro e w4 ⟨v1, v2, rfl, ho, hb⟩
  obtain ⟨A3, n3, k3, rfl⟩ := own_slice ho.d jb1
  obtain ⟨A4, n4, k4, rfl⟩ := own_slice ho.s jb2
  obtain rfl : n3 = P.length := own_n' ho.d
  obtain rfl : n4 = Q.length := own_n' ho.s
  have F7 := Lib.hid (F6.out.below hb)
  clear F6
  have F8 := Lib.hid (F7.out.addO (ho))
  clear F7
  have Rone1 := Lib.hid (show ∀ k, rows2 (.slice A3 P.length k3) (.slice A4 Q.length k4) k → W3.heap.size ≤ k from ho.ge)
  have Rone2 := Lib.hid (show ∀ k, rows2 (.slice A3 P.length k3) (.slice A4 Q.length k4) k → k < w4.heap.size from ho.lt)
  have Sw4 : W3.heap.size ≤ w4.heap.size := hb.size
  replace BB := Lib.hid (bl_then BB.out hb)
  clear ho hb
  have pa_0 : w4.cell? ⟨w.heap.size, 0, none⟩ = some (.string k) := (F8.out.blk 3 rfl).cell 0
  have pa_1 : w4.cell? ⟨w.heap.size, 1, none⟩ = some (.string v) := (F8.out.blk 3 rfl).cell 1
  have pa_lt : w.heap.size < w4.heap.size := (F8.out.blk 3 rfl).lt
  go_wp2_with fail
  obtain ⟨W5, hW5⟩ : ∃ W : World, W = w4.alloc (.cells #[.string K, .slice A3 P.length k3, .slice A4 Q.length k4] 27) := ⟨_, rfl⟩
  rw [← hW5]
  have LW5 : Hid (Below w4.heap.size w4 W5) := Lib.hid (by rw [hW5]; exact (by repeat (first | exact Below.refl _ _ | refine bl_drewN ?_ _ | refine bl_drew ?_ | refine bl_alloc ?_ _)))
  have XW5 : Hid (GR.Blk W5 w4.heap.size 27 #[.string K, .slice A3 P.length k3, .slice A4 Q.length k4]) := Lib.hid (by rw [hW5]; exact GR.Blk.new _ _ _)
  have SW5 : w4.heap.size < W5.heap.size := XW5.out.lt
  clear hW5
  clear pa_0 pa_1 pa_lt
  have F9 := Lib.hid (F8.out.below LW5.out)
  clear F8
  have F10 := Lib.hid (HS.addB F9.out (g := w4.heap.size) (t := 27) (cs := #[.string K, .slice A3 P.length k3, .slice A4 Q.length k4]) (XW5.out))
  clear F9
  replace BB := Lib.hid (bl_then BB.out LW5.out)
  refine (HV.out _).mono ?_
  rintro e w6 ⟨v1, v2, rfl, ho, hb⟩
  obtain ⟨A5, n5, k5, rfl⟩ := own_slice ho.d jb1
  obtain ⟨A6, n6, k6, rfl⟩ := own_slice ho.s jb2
  obtain rfl : n5 = P.length := own_n' ho.d
  obtain rfl : n6 = Q.length := own_n' ho.s
  have F11 := Lib.hid (F10.out.below hb)
  clear F10
  have F12 := Lib.hid (F11.out.addO (ho))
  clear F11
  have Rtwo1 := Lib.hid (show ∀ k, rows2 (.slice A5 P.length k5) (.slice A6 Q.length k6) k → W5.heap.size ≤ k from ho.ge)
  have Rtwo2 := Lib.hid (show ∀ k, rows2 (.slice A5 P.length k5) (.slice A6 Q.length k6) k → k < w6.heap.size from ho.lt)
  have Sw6 : W5.heap.size ≤ w6.heap.size := hb.size
  replace BB := Lib.hid (bl_then BB.out hb)
  clear ho hb
  have p1_0 : w6.cell? ⟨w4.heap.size, 0, none⟩ = some (.string K) := (F12.out.blk 1 rfl).cell 0
  have p1_1 : w6.cell? ⟨w4.heap.size, 1, none⟩ = some (.slice A3 P.length k3) := (F12.out.blk 1 rfl).cell 1
  have p1_2 : w6.cell? ⟨w4.heap.size, 2, none⟩ = some (.slice A4 Q.length k4) := (F12.out.blk 1 rfl).cell 2
  have pw_0 : w6.cell? ⟨w2.heap.size, 0, none⟩ = some (.string K) := (F12.out.blk 3 rfl).cell 0
  have pw_1 : w6.cell? ⟨w2.heap.size, 1, none⟩ = some (.slice A1 P.length k1) := (F12.out.blk 3 rfl).cell 1
  have pw_2 : w6.cell? ⟨w2.heap.size, 2, none⟩ = some (.slice A2 Q.length k2) := (F12.out.blk 3 rfl).cell 2
  have p1_lt : w4.heap.size < w6.heap.size := (F12.out.blk 1 rfl).lt
  have pw_lt : w2.heap.size < w6.heap.size := (F12.out.blk 3 rfl).lt
  go_wp2_with fail
  obtain ⟨W7, hW7⟩ : ∃ W : World, W = w6.alloc (.cells #[.string K, .slice A5 P.length k5, .slice A6 Q.length k6] 27) := ⟨_, rfl⟩
  rw [← hW7]
  have LW7 : Hid (Below w6.heap.size w6 W7) := Lib.hid (by rw [hW7]; exact (by repeat (first | exact Below.refl _ _ | refine bl_drewN ?_ _ | refine bl_drew ?_ | refine bl_alloc ?_ _)))
  have XW7 : Hid (GR.Blk W7 w6.heap.size 27 #[.string K, .slice A5 P.length k5, .slice A6 Q.length k6]) := Lib.hid (by rw [hW7]; exact GR.Blk.new _ _ _)
  have SW7 : w6.heap.size < W7.heap.size := XW7.out.lt
  clear hW7
  clear p1_0 p1_1 p1_2 p1_lt pw_0 pw_1 pw_2 pw_lt
  have F13 := Lib.hid (F12.out.below LW7.out)
  clear F12
  have F14 := Lib.hid (HS.addB F13.out (g := w6.heap.size) (t := 27) (cs := #[.string K, .slice A5 P.length k5, .slice A6 Q.length k6]) (XW7.out))
  clear F13
  replace BB := Lib.hid (bl_then BB.out LW7.out)
  refine (lsame_any K K _ _ _ _ _ _ _ _ _ _ _ _ P P Q Q true _ ((F14.out.own 3 rfl).d.rd jb1).2.2 ((F14.out.own 3 rfl).s.rd jb2).2.2 ((F14.out.own 5 rfl).d.rd jb1).2.2 ((F14.out.own 5 rfl).s.rd jb2).2.2 rfl rfl rfl rfl (by simp [stEq])).mono ?_
  rintro e w8 ⟨rfl, hb⟩
  have hz8 : W7.heap.size ≤ w8.heap.size := hb.size
  have F15 := Lib.hid (F14.out.below hb)
  clear F14
  replace BB := Lib.hid (bl_then BB.out hb)
  clear hb
  have p2_0 : w8.cell? ⟨w6.heap.size, 0, none⟩ = some (.string K) := (F15.out.blk 0 rfl).cell 0
  have p2_1 : w8.cell? ⟨w6.heap.size, 1, none⟩ = some (.slice A5 P.length k5) := (F15.out.blk 0 rfl).cell 1
  have p2_2 : w8.cell? ⟨w6.heap.size, 2, none⟩ = some (.slice A6 Q.length k6) := (F15.out.blk 0 rfl).cell 2
  have pw_0 : w8.cell? ⟨w2.heap.size, 0, none⟩ = some (.string K) := (F15.out.blk 4 rfl).cell 0
  have pw_1 : w8.cell? ⟨w2.heap.size, 1, none⟩ = some (.slice A1 P.length k1) := (F15.out.blk 4 rfl).cell 1
  have pw_2 : w8.cell? ⟨w2.heap.size, 2, none⟩ = some (.slice A2 Q.length k2) := (F15.out.blk 4 rfl).cell 2
  go_wp2_with fail
  clear p2_0 p2_1 p2_2 pw_0 pw_1 pw_2
  refine (lsame_any K K _ _ _ _ _ _ _ _ _ _ _ _ P P Q Q true _ ((F15.out.own 1 rfl).d.rd jb1).2.2 ((F15.out.own 1 rfl).s.rd jb2).2.2 ((F15.out.own 5 rfl).d.rd jb1).2.2 ((F15.out.own 5 rfl).s.rd jb2).2.2 rfl rfl rfl rfl (by simp [stEq])).mono ?_
  rintro e w9 ⟨rfl, hb⟩
  have hz9 : w8.heap.size ≤ w9.heap.size := hb.size
  have F16 := Lib.hid (F15.out.below hb)
  clear F15
  replace BB := Lib.hid (bl_then BB.out hb)
  clear hb
  have p1_0 : w9.cell? ⟨w4.heap.size, 0, none⟩ = some (.string K) := (F16.out.blk 2 rfl).cell 0
  have p1_1 : w9.cell? ⟨w4.heap.size, 1, none⟩ = some (.slice A3 P.length k3) := (F16.out.blk 2 rfl).cell 1
  have p1_2 : w9.cell? ⟨w4.heap.size, 2, none⟩ = some (.slice A4 Q.length k4) := (F16.out.blk 2 rfl).cell 2
  go_wp2_with fail
  clear p1_0 p1_1 p1_2
  have BBs : w.heap.size ≤ w9.heap.size := BB.out.size
  have HSZ := Lib.hid (show W3.heap.size ≤ w9.heap.size by have h8 := hz8; have h9 := hz9; omega)
  refine (lspoil_any W3.heap.size K (⟨#[126]⟩ : ByteArray) _ _ P Q _ (F16.out.own 3 rfl) (HSZ.out) (by omega) (by omega)).mono ?_
  rintro e w10 ⟨⟨r, rfl, hr⟩, hc⟩
  have Bp2 : Hid (GR.Blk w10 w6.heap.size 27 #[.string K, .slice A5 P.length k5, .slice A6 Q.length k6]) := Lib.hid (OwnS.blkO (F16.out.own 3 rfl) (F16.out.blk 0 rfl) hc)
  have Bpw : Hid (GR.Blk w10 w2.heap.size 27 #[.string K, .slice A1 P.length k1, .slice A2 Q.length k2]) := Lib.hid (OwnS.blkO (F16.out.own 3 rfl) (F16.out.blk 4 rfl) hc)
  have O2 := Lib.hid (OwnS.far (F16.out.own 1 rfl) (F16.out.own 3 rfl) (ApS.symm (ApS.of_lt (C := W5.heap.size) (fun k hk => by have := Rone2.out k hk; omega) Rtwo1.out)) hc)
  have O3 := Lib.hid (OwnS.far (F16.out.own 5 rfl) (F16.out.own 3 rfl) (ApS.of_lt (C := W3.heap.size) (fun k hk => by have := Rwant2.out k hk; omega) Rone1.out) hc)
  have BC := Lib.hid (BB.out.trans (hc.below BB.out.size (fun k hk => by have := Rone1.out k hk; have := LW.out.size; omega)))
  have hr2 : decide ((40 : Int) ≤ r) = true := by simpa using hr
  have b0 := Bp2.out.cell 0
  have b1 := Bp2.out.cell 1
  have b2 := Bp2.out.cell 2
  have d0 := Bpw.out.cell 0
  have d1 := Bpw.out.cell 1
  have d2 := Bpw.out.cell 2
  replace b0 : w10.cell? ⟨w6.heap.size, 0, none⟩ = some (.string K) := b0
  replace b1 : w10.cell? ⟨w6.heap.size, 1, none⟩ = some (.slice A5 P.length k5) := b1
  replace b2 : w10.cell? ⟨w6.heap.size, 2, none⟩ = some (.slice A6 Q.length k6) := b2
  replace d0 : w10.cell? ⟨w2.heap.size, 0, none⟩ = some (.string K) := d0
  replace d1 : w10.cell? ⟨w2.heap.size, 1, none⟩ = some (.slice A1 P.length k1) := d1
  replace d2 : w10.cell? ⟨w2.heap.size, 2, none⟩ = some (.slice A2 Q.length k2) := d2
  clear hc
  go_wp2_with fail
  refine (lsame_any K K _ _ _ _ _ _ _ _ _ _ _ _ P P Q Q true _ (O2.out.d.rd jb1).2.2 (O2.out.s.rd jb2).2.2 (O3.out.d.rd jb1).2.2 (O3.out.s.rd jb2).2.2 rfl rfl rfl rfl (by simp [stEq])).mono ?_
  rintro e w11 ⟨rfl, hb⟩
  go_wp2
  go_ret
  exact ⟨rfl, bl_then BC.out hb⟩
end Go.Proofs.Ytljfigikkajlnaa
