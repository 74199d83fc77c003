/- DERIVED. The program's Count and Covers, over the library's binary search. -/
import Derived.Test.YtljfigikkajlnaaVm6
namespace Go.Proofs.Ytljfigikkajlnaa
open Go.RowKit
set_option linter.unusedVariables false
set_option linter.unusedSimpArgs false
theorem countCmp_any (x : Dot) (a : Int) (w : World) :
    Calls Try.prog 117 #[.agg #[.int .u32 x.a, .int .u64 x.n], .int .u32 a] w fun e w' => e = .returned (.int .i64 (cmpI x.a a)) ∧ Below w.heap.size w w' := by
  go_enter Try.func117, Try.ntmps117
  go_wp2_with (go_at_call 114; refine (cmp32_any _ _ _).mono ?_; rintro e w' ⟨rfl, rfl⟩)
  go_ret
  exact ⟨rfl, (by repeat (first | exact Below.refl _ _ | refine bl_drewN ?_ _ | refine bl_drew ?_ | refine bl_alloc ?_ _))⟩
theorem countCmp_is (x : Dot) (a r : Int) (h : cmpI x.a a = r) (w : World) :
    Calls Try.prog 117 #[.agg #[.int .u32 x.a, .int .u64 x.n], .int .u32 a] w fun e w' => e = .returned (.int .i64 r) ∧ Below w.heap.size w w' := by
  subst h; exact countCmp_any x a w
theorem cmpI_lt {x y : Int} (h : x < y) : cmpI x y = -1 := by unfold cmpI; rw [if_pos h]
theorem cmpI_self (x : Int) : cmpI x x = 0 := by unfold cmpI; rw [if_neg (by omega), if_neg (by omega)]
theorem cmpI_gt {x y : Int} (h : y < x) : cmpI x y = 1 := by unfold cmpI; rw [if_neg (by omega), if_pos h]
/-- What a search for an actor finds. -/
def Finds (l : List Dot) (a : Int) (e : Ending) : Prop := ∃ (i : Nat) (ok : Bool), e = .returned (.tuple #[.int .i64 i, .bool ok]) ∧ (ok = true → ∃ h : i < l.length, l[i].a = a) ∧ (ok = false → Ris l → ∀ d ∈ l, d.a ≠ a)
set_option maxRecDepth 100000 in
set_option maxHeartbeats 1600000 in
theorem searchA_any (A : Option Addr) (c : Nat) (l : List Dot) (a : Int) (w : World) (hr : GR.Rd dotK w A l) :
    Calls Try.prog 116 #[.slice A l.length c, .int .u32 a, .func (.func 117) #[] #[]] w
      fun e w' => Finds l a e ∧ Below w.heap.size w w' := by
  have hmax : l.length * 16 ≤ 140737488355328 := hr.max
  have HR := Lib.hid hr
  clear hr
  go_enter Try.func116, Try.ntmps116
  go_wp2_with fail
  go_loopw [9, 10] (fun i j w' => ∃ p q : Nat, p ≤ q ∧ q ≤ l.length ∧ i = .int .i64 p ∧ j = .int .i64 q ∧
      Hid (Ris l → ∀ t (ht : t < l.length), t < p → l[t].a < a) ∧ Hid (Ris l → ∀ t (ht : t < l.length), q ≤ t → a ≤ l[t].a) ∧ Hid (Below w.heap.size w w')) (fun i j _ => (intOf j).toNat - (intOf i).toNat)
  case atStart => exact ⟨0, l.length, by omega, by omega, rfl, rfl, Lib.hid (fun _ t _ h => absurd h (by omega)), Lib.hid (fun _ t h1 h2 => absurd h1 (by omega)), Lib.hid (Below.refl _ _)⟩
  case round =>
    obtain ⟨p, q, hpq, hql, rfl, rfl, hlo, hhi, hw⟩ := hrel
    have HR1 := Lib.hid (HR.out.below hw.out)
    by_cases hlt : p < q
    · have e1 : IntKind.u64.wrap ((p : Int) + (q : Int)) = (p : Int) + (q : Int) := IntWalk.u64_in _ (by omega)
      have e2 : IntKind.i64.wrap (((p : Int) + (q : Int)) / 2) = ((p : Int) + (q : Int)) / 2 := IntWalk.i64_in _ (by omega)
      have hm : (p + q) / 2 < l.length := by omega
      have i0 : (0 : Int) ≤ ((p : Int) + (q : Int)) / 2 := by omega
      have i1 : ((p : Int) + (q : Int)) / 2 < (l.length : Int) := by omega
      obtain ⟨ad, rfl, hb0, c0, c1⟩ := dot_at HR1.out _ hm
      by_cases hc : l[(p + q) / 2].a < a
      · have HC := Lib.hid (cmpI_lt hc)
        have HL : Hid (Ris l → ∀ t (ht : t < l.length), t < (p + q) / 2 + 1 → l[t].a < a) := Lib.hid (fun hs t ht hta => by
          rcases Nat.lt_or_ge t ((p + q) / 2) with h | h
          · have := List.pairwise_iff_getElem.1 hs t _ ht hm h; omega
          · obtain rfl : t = (p + q) / 2 := by omega
            exact hc)
        clear hc
        go_wp2_with (go_at_call 117; refine (countCmp_is _ _ _ HC.out _).mono ?_; rintro e w1 ⟨rfl, hb1⟩; have HB := Lib.hid hb1; clear hb1)
        go_roundw
        case rel => exact ⟨(p + q) / 2 + 1, q, by omega, hql, by go_num, rfl, HL, hhi, Lib.hid (bl_then hw.out HB.out)⟩
        case measure => simp [intOf]; omega
      · have HH : Hid (Ris l → ∀ t (ht : t < l.length), (p + q) / 2 ≤ t → a ≤ l[t].a) := Lib.hid (fun hs t ht hta => by
          rcases Nat.lt_or_ge ((p + q) / 2) t with h | h
          · have := List.pairwise_iff_getElem.1 hs _ t hm ht h; omega
          · obtain rfl : t = (p + q) / 2 := by omega
            omega)
        have hc2 : cmpI l[(p + q) / 2].a a = 0 ∨ cmpI l[(p + q) / 2].a a = 1 := by
          rcases Int.lt_trichotomy l[(p + q) / 2].a a with h | h | h
          · exact absurd h hc
          · left; rw [h, cmpI_self]
          · right; exact cmpI_gt h
        clear hc
        rcases hc2 with hc2 | hc2
        all_goals
          have HC := Lib.hid hc2
          clear hc2
          go_wp2_with (go_at_call 117; refine (countCmp_is _ _ _ HC.out _).mono ?_; rintro e w1 ⟨rfl, hb1⟩; have HB := Lib.hid hb1; clear hb1)
          go_roundw
          case rel => exact ⟨p, (p + q) / 2, by omega, by omega, rfl, by go_num, hlo, HH, Lib.hid (bl_then hw.out HB.out)⟩
          case measure => simp [intOf]; omega
    · obtain rfl : p = q := by omega
      by_cases hend : p < l.length
      · have i0 : (0 : Int) ≤ (p : Int) := by omega
        have i1 : (p : Int) < (l.length : Int) := by omega
        have d1 : decide (p < l.length) = true := by simpa using hend
        have d2 : decide ((p : Int) < (l.length : Int)) = true := by simpa using hend
        obtain ⟨ad, rfl, hb0, c0, c1⟩ := dot_at HR1.out p hend
        by_cases hq : l[p].a = a
        · have HT : Hid (∃ h : p < l.length, l[p].a = a) := Lib.hid ⟨hend, hq⟩
          have HC := Lib.hid (show cmpI l[p].a a = 0 by rw [hq, cmpI_self])
          clear hq
          go_wp2_with (go_at_call 117; refine (countCmp_is _ _ _ HC.out _).mono ?_; rintro e w1 ⟨rfl, hb1⟩; have HB := Lib.hid hb1; clear hb1)
          go_ret2
          exact ⟨⟨p, true, rfl, fun _ => HT.out, fun h => by cases h⟩, bl_then hw.out HB.out⟩
        · have HT : Hid (Ris l → ∀ d ∈ l, d.a ≠ a) := Lib.hid (fun hs d hd => by
            obtain ⟨t, ht, rfl⟩ := List.getElem_of_mem hd
            rcases Nat.lt_or_ge t p with h | h
            · have := hlo.out hs t ht h; omega
            · rcases Nat.lt_or_ge p t with h2 | h2
              · have := List.pairwise_iff_getElem.1 hs _ t hend ht h2
                have := hhi.out hs p hend (Nat.le_refl _); omega
              · obtain rfl : t = p := by omega
                exact hq)
          have hc2 : cmpI l[p].a a = -1 ∨ cmpI l[p].a a = 1 := by
            rcases Int.lt_trichotomy l[p].a a with h | h | h
            · left; exact cmpI_lt h
            · exact absurd h hq
            · right; exact cmpI_gt h
          clear hq
          rcases hc2 with hc2 | hc2
          all_goals
            have HC := Lib.hid hc2
            clear hc2
            go_wp2_with (go_at_call 117; refine (countCmp_is _ _ _ HC.out _).mono ?_; rintro e w1 ⟨rfl, hb1⟩; have HB := Lib.hid hb1; clear hb1)
            go_ret2
            exact ⟨⟨p, false, rfl, fun h => (by cases h), fun _ => HT.out⟩, bl_then hw.out HB.out⟩
      · have d1 : decide (p < l.length) = false := by simpa using hend
        have d2 : decide ((p : Int) < (l.length : Int)) = false := by simp; omega
        have HT : Hid (Ris l → ∀ d ∈ l, d.a ≠ a) := Lib.hid (fun hs d hd => by
          obtain ⟨t, ht, rfl⟩ := List.getElem_of_mem hd
          have := hlo.out hs t ht (by omega); omega)
        go_wp2
        go_ret2
        exact ⟨⟨p, false, rfl, fun h => (by cases h), fun _ => HT.out⟩, hw.out⟩
set_option maxRecDepth 100000 in
set_option maxHeartbeats 1600000 in
theorem count_any (A : Option Addr) (c : Nat) (l : List Dot) (a : Int) (w : World) (hr : GR.Rd dotK w A l) (hn : ∀ d ∈ l, 0 ≤ d.n) :
    Calls Try.prog 83 #[.slice A l.length c, .int .u32 a] w fun e w' => e = .returned (.int .u64 (cnt l a)) ∧ Below w.heap.size w w' := by
  have HR := Lib.hid hr
  have HN := Lib.hid hn
  clear hr hn
  have HC : Hid ((∀ i (h : i < l.length), l[i].a = a → vecB l = true → l[i].n = cnt l a) ∧ (vecB l = false → 0 = cnt l a) ∧ ((Ris l → ∀ d ∈ l, d.a ≠ a) → 0 = cnt l a)) := Lib.hid ⟨fun i h ha hv => by
      rw [cnt_vec hv, ← ha, look_mem (vec_ris hv) (List.getElem_mem h)], fun hv => (cnt_no hv a).symm, fun h => by
      by_cases hv : vecB l = true
      · rw [cnt_vec hv, look_none (h (vec_ris hv))]
      · rw [cnt_no (by simpa using hv)]⟩
  go_enter Try.func83, Try.ntmps83
  go_wp2_with fail
  refine (searchA_any _ _ _ _ _ HR.out).mono ?_
  rintro e w1 ⟨⟨i, ok, rfl, h1, h2⟩, hb1⟩
  have B1 := Lib.hid hb1
  have HR1 := Lib.hid (HR.out.below hb1)
  clear hb1
  cases ok with
  | false =>
    have HV := Lib.hid (HC.out.2.2 (h2 rfl))
    clear h1 h2
    go_wp2
    go_ret
    exact ⟨ret_int HV.out, B1.out⟩
  | true =>
    obtain ⟨hi, ha⟩ := h1 rfl
    have HX := Lib.hid (HC.out.1 i hi ha)
    clear h1 h2 ha
    have i0 : (0 : Int) ≤ (i : Int) := by omega
    have i1 : (i : Int) < (l.length : Int) := by omega
    by_cases hv : vecB l = true
    · have HV := Lib.hid (HX.out hv)
      have hv2 : (!vecB l) = false := by simp [hv]
      have HVV := Lib.hid hv
      clear hv
      go_wp2_with fail
      refine (vecValid_any _ _ _ _ HR1.out HN.out).mono ?_
      rintro e w2 ⟨rfl, hb2⟩
      have B2 := Lib.hid (bl_then B1.out hb2)
      have HR2 := Lib.hid (HR1.out.below hb2)
      clear hb2
      obtain ⟨ad, rfl, hb0, c0, c1⟩ := dot_at HR2.out i hi
      go_wp2
      go_ret
      exact ⟨ret_int HV.out, B2.out⟩
    · have hv' : vecB l = false := by simpa using hv
      have HV := Lib.hid (HC.out.2.1 hv')
      have hv2 : (!vecB l) = true := by simp [hv']
      clear hv hv'
      go_wp2_with fail
      refine (vecValid_any _ _ _ _ HR1.out HN.out).mono ?_
      rintro e w2 ⟨rfl, hb2⟩
      have B2 := Lib.hid (bl_then B1.out hb2)
      clear hb2
      go_wp2
      go_ret
      exact ⟨ret_int HV.out, B2.out⟩
set_option maxRecDepth 100000 in
set_option maxHeartbeats 1600000 in
theorem covers_any (A : Option Addr) (c : Nat) (l : List Dot) (d : Dot) (w : World) (hr : GR.Rd dotK w A l) (hn : ∀ d ∈ l, 0 ≤ d.n) (hd : 0 ≤ d.n) :
    Calls Try.prog 76 #[.slice A l.length c, .agg #[.int .u32 d.a, .int .u64 d.n]] w fun e w' => e = .returned (.bool (cov l d)) ∧ Below w.heap.size w w' := by
  have HR := Lib.hid hr
  have HN := Lib.hid hn
  clear hr hn
  have B0 := Lib.hid ((Below.refl w.heap.size w).alloc (Nat.le_refl _) (.cells #[.int .u32 d.a, .int .u64 d.n] 41))
  by_cases h : 1 ≤ d.n
  · have t0 : decide (0 < d.n) = true := by simp; omega
    have HC := Lib.hid (show cov l d = decide (d.n ≤ cnt l d.a) by simp [cov, h])
    clear h hd
    go_enter Try.func76, Try.ntmps76
    go_wp2
    go_region_held3 (fun w' => w'.cell? ⟨w.heap.size, 0, none⟩ = some (.int .u32 d.a) ∧ w'.cell? ⟨w.heap.size, 1, none⟩ = some (.int .u64 d.n)) (first | go_keep | (exact ⟨(B2.out.cell (p := ⟨w.heap.size, 0, none⟩) (by simp)).trans (by go_simp), (B2.out.cell (p := ⟨w.heap.size, 1, none⟩) (by simp)).trans (by go_simp)⟩)) ((go_at_call 83; refine (count_any _ _ _ _ _ (HR.out.below (by repeat (first | exact B0.out | refine bl_drewN ?_ _ | refine bl_drew ?_ | refine bl_alloc ?_ _))) HN.out).mono ?_; rintro e w2 ⟨rfl, hb2⟩; have B2 := Lib.hid hb2; clear hb2))
    go_wp2
    go_ret
    exact ⟨ret_bool HC.out.symm, bl_then (by repeat (first | exact B0.out | refine bl_drewN ?_ _ | refine bl_drew ?_ | refine bl_alloc ?_ _)) B2.out⟩
  · have t0 : decide (0 < d.n) = false := by simp; omega
    have HC := Lib.hid (show cov l d = false by simp [cov, h])
    clear h
    go_enter Try.func76, Try.ntmps76
    go_wp2
    go_quiet (fail)
    go_wp2
    go_ret
    exact ⟨ret_bool HC.out.symm, (by repeat (first | exact Below.refl _ _ | refine bl_drewN ?_ _ | refine bl_drew ?_ | refine bl_alloc ?_ _))⟩
theorem refCount_bl (A : Option Addr) (c : Nat) (l : List Dot) (a : Int) (w : World) (hr : GR.Rd dotK w A l) (hn : ∀ d ∈ l, 0 ≤ d.n) :
    Calls Try.prog 79 #[.slice A l.length c, .int .u32 a] w fun e w' => e = .returned (.int .u64 (cnt l a)) ∧ Below w.heap.size w w' := (refCount_any A c l a w hr hn).mono fun _ _ ⟨h, hd⟩ => ⟨h, hd.below _⟩
end Go.Proofs.Ytljfigikkajlnaa
