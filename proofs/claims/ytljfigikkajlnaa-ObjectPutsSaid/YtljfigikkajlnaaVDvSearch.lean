/- DERIVED. The library's binary search of a dot among siblings. -/
import Derived.Test.YtljfigikkajlnaaVDvJoinP
import Derived.Test.YtljfigikkajlnaaVDvValid
namespace Go.Proofs.Ytljfigikkajlnaa
open Go.RowKit
set_option linter.unusedVariables false
set_option linter.unusedSimpArgs false
/-- What a search for a dot finds. -/
def FindS (l : List Sib) (d : Dot) (e : Ending) : Prop := ∃ (i : Nat) (ok : Bool), e = .returned (.tuple #[.int .i64 i, .bool ok]) ∧ i ≤ l.length ∧ (SRis l → (∀ t (ht : t < l.length), t < i → ltD l[t].d d = true) ∧ (∀ t (ht : t < l.length), i ≤ t → ltD l[t].d d = false)) ∧ (ok = true ↔ ∃ h : i < l.length, l[i].d = d)
theorem cmpD_three (x y : Dot) : (ltD x y = true ∧ cmpD x y = -1) ∨ (ltD x y = false ∧ x = y ∧ cmpD x y = 0) ∨ (ltD x y = false ∧ x ≠ y ∧ cmpD x y = 1) := by
  rcases ltD_tri x y with ⟨h, _⟩ | h | ⟨h, hn, h2⟩
  · exact .inl ⟨h, cmpD_lt h⟩
  · exact .inr (.inl ⟨by rw [h, ltD_irrefl], h, by rw [h, cmpD_self]⟩)
  · exact .inr (.inr ⟨h2, hn, cmpD_gt h⟩)
theorem sris_lt {l : List Sib} (h : SRis l) {i j : Nat} (hi : i < l.length) (hj : j < l.length) (hij : i < j) : ltD l[i].d l[j].d = true := List.pairwise_iff_getElem.1 h i j hi hj hij
theorem sibCmpP_any (x : Sib) (d : Dot) (r : Int) (h : cmpD x.d d = r) (w : World) :
    Calls Try.prog 85 #[.agg #[.int .u32 x.d.a, .int .u64 x.d.n, .bool x.gone, .string x.v], .agg #[.int .u32 d.a, .int .u64 d.n]] w fun e w' => e = .returned (.int .i64 r) ∧ Below w.heap.size w w' := by
  go_enter Try.func85, Try.ntmps85
  go_wp2_with fail
  refine (order_is x.d d r h _).mono ?_
  rintro e w1 ⟨rfl, hb⟩
  go_wp2
  go_ret
  exact ⟨rfl, bl_then (by repeat (first | exact Below.refl _ _ | refine bl_drewN ?_ _ | refine bl_drew ?_ | refine bl_alloc ?_ _)) hb⟩
set_option maxRecDepth 100000 in
set_option maxHeartbeats 3200000 in
theorem searchP_any (A : Option Addr) (c : Nat) (l : List Sib) (d : Dot) (w : World) (hr : GR.Rd sibK w A l) :
    Calls Try.prog 84 #[.slice A l.length c, .agg #[.int .u32 d.a, .int .u64 d.n], .func (.func 85) #[] #[]] w
      fun e w' => FindS l d e ∧ Below w.heap.size w w' := by
  have hmax : l.length * 40 ≤ 140737488355328 := hr.max
  have HR := Lib.hid hr
  clear hr
  go_enter Try.func84, Try.ntmps84
  go_wp2_with fail
  obtain ⟨W1, hW1⟩ : ∃ W1 : World, W1 = w.alloc (.cells #[.int .u32 d.a, .int .u64 d.n] 41) := ⟨_, rfl⟩
  rw [← hW1]
  have LW : Hid (Below w.heap.size w W1) := Lib.hid (by rw [hW1]; exact (by repeat (first | exact Below.refl _ _ | refine bl_drewN ?_ _ | refine bl_drew ?_ | refine bl_alloc ?_ _)))
  have XD : Hid (GR.Blk W1 w.heap.size 41 #[.int .u32 d.a, .int .u64 d.n]) := Lib.hid (by rw [hW1]; exact GR.Blk.new _ _ _)
  clear hW1
  go_loopw [9, 10] (fun i j w' => ∃ p q : Nat, p ≤ q ∧ q ≤ l.length ∧ i = .int .i64 p ∧ j = .int .i64 q ∧
      Hid (SRis l → ∀ t (ht : t < l.length), t < p → ltD l[t].d d = true) ∧ Hid (SRis l → ∀ t (ht : t < l.length), q ≤ t → ltD l[t].d d = false) ∧ Hid (Below W1.heap.size W1 w')) (fun i j _ => (intOf j).toNat - (intOf i).toNat)
  case atStart => exact ⟨0, l.length, by omega, by omega, rfl, rfl, Lib.hid (fun _ t _ h => absurd h (by omega)), Lib.hid (fun _ t h1 h2 => absurd h1 (by omega)), Lib.hid (Below.refl _ _)⟩
  case round =>
    obtain ⟨p, q, hpq, hql, rfl, rfl, hlo, hhi, hw⟩ := hrel
    have HR1 := HR.out.below (bl_then LW.out hw.out)
    have y0 := over_cell ((XD.out.below hw.out XD.out.lt).cell 0)
    have y1 := over_cell ((XD.out.below hw.out XD.out.lt).cell 1)
    replace y0 : ∀ x : Over wr, x.w.cell? ⟨w.heap.size, 0, none⟩ = some (.int .u32 d.a) := y0
    replace y1 : ∀ x : Over wr, x.w.cell? ⟨w.heap.size, 1, none⟩ = some (.int .u64 d.n) := y1
    by_cases hlt : p < q
    · have e1 : IntKind.u64.wrap ((p : Int) + (q : Int)) = (p : Int) + (q : Int) := IntWalk.u64_in _ (by omega)
      have e2 : IntKind.i64.wrap (((p : Int) + (q : Int)) / 2) = ((p : Int) + (q : Int)) / 2 := IntWalk.i64_in _ (by omega)
      have e3 : IntKind.i64.wrap ((p : Int) + (q : Int)) = (p : Int) + (q : Int) := IntWalk.i64_in _ (by omega)
      have hm : (p + q) / 2 < l.length := by omega
      have i0 : (0 : Int) ≤ ((p : Int) + (q : Int)) / 2 := by omega
      have i1 : ((p : Int) + (q : Int)) / 2 < (l.length : Int) := by omega
      obtain ⟨ad, rfl, hb0, c0, c1, c2, c3⟩ := sib_at HR1 _ hm
      have x0 := over_cell c0
      have x1 := over_cell c1
      have x2 := over_cell c2
      have x3 := over_cell c3
      clear HR1 c0 c1 c2 c3
      rcases cmpD_three l[(p + q) / 2].d d with ⟨hc, hr⟩ | ⟨hc, he, hr⟩ | ⟨hc, he, hr⟩
      · have HC := Lib.hid hr
        have HL : Hid (SRis l → ∀ t (ht : t < l.length), t < (p + q) / 2 + 1 → ltD l[t].d d = true) := Lib.hid (fun hs t ht hta => by
          rcases Nat.lt_or_ge t ((p + q) / 2) with h | h
          · exact ltD_trans (sris_lt hs ht hm h) hc
          · obtain rfl : t = (p + q) / 2 := by omega
            exact hc)
        clear hc hr
        go_wp2
        refine over_region (W := wr) (by kernel_rfl) (by kernel_rfl) (by repeat (first | exact Below.refl _ _ | refine bl_drewN ?_ _ | refine bl_drew ?_ | refine bl_alloc ?_ _)) ?_
        repeat (go_big_quiet_step (refine over_of (sibCmpP_any _ _ _ HC.out _)))
        refine wpQuiet_nil ?_
        intro _ hx_
        obtain ⟨x_, hx_⟩ := hx_
        subst hx_
        obtain ⟨w1, hb1⟩ := x_
        dsimp only
        have HB := Lib.hid hb1
        clear hb1 x0 x1 x2 x3 y0 y1
        go_wp2
        go_roundw
        case rel => exact ⟨(p + q) / 2 + 1, q, by omega, hql, by go_num, rfl, HL, hhi, Lib.hid (bl_then hw.out HB.out)⟩
        case measure => simp [intOf]; omega
      · have HC := Lib.hid hr
        clear he
        have HH : Hid (SRis l → ∀ t (ht : t < l.length), (p + q) / 2 ≤ t → ltD l[t].d d = false) := Lib.hid (fun hs t ht hta => by
          rcases Nat.lt_or_ge ((p + q) / 2) t with h | h
          · rcases h2 : ltD l[t].d d with _ | _
            · rfl
            · rw [ltD_trans (sris_lt hs hm ht h) h2] at hc; cases hc
          · obtain rfl : t = (p + q) / 2 := by omega
            exact hc)
        clear hc hr
        go_wp2
        refine over_region (W := wr) (by kernel_rfl) (by kernel_rfl) (by repeat (first | exact Below.refl _ _ | refine bl_drewN ?_ _ | refine bl_drew ?_ | refine bl_alloc ?_ _)) ?_
        repeat (go_big_quiet_step (refine over_of (sibCmpP_any _ _ _ HC.out _)))
        refine wpQuiet_nil ?_
        intro _ hx_
        obtain ⟨x_, hx_⟩ := hx_
        subst hx_
        obtain ⟨w1, hb1⟩ := x_
        dsimp only
        have HB := Lib.hid hb1
        clear hb1 x0 x1 x2 x3 y0 y1
        go_wp2
        go_roundw
        case rel => exact ⟨p, (p + q) / 2, by omega, by omega, rfl, by go_num, hlo, HH, Lib.hid (bl_then hw.out HB.out)⟩
        case measure => simp [intOf]; omega
      · have HC := Lib.hid hr
        clear he
        have HH : Hid (SRis l → ∀ t (ht : t < l.length), (p + q) / 2 ≤ t → ltD l[t].d d = false) := Lib.hid (fun hs t ht hta => by
          rcases Nat.lt_or_ge ((p + q) / 2) t with h | h
          · rcases h2 : ltD l[t].d d with _ | _
            · rfl
            · rw [ltD_trans (sris_lt hs hm ht h) h2] at hc; cases hc
          · obtain rfl : t = (p + q) / 2 := by omega
            exact hc)
        clear hc hr
        go_wp2
        refine over_region (W := wr) (by kernel_rfl) (by kernel_rfl) (by repeat (first | exact Below.refl _ _ | refine bl_drewN ?_ _ | refine bl_drew ?_ | refine bl_alloc ?_ _)) ?_
        repeat (go_big_quiet_step (refine over_of (sibCmpP_any _ _ _ HC.out _)))
        refine wpQuiet_nil ?_
        intro _ hx_
        obtain ⟨x_, hx_⟩ := hx_
        subst hx_
        obtain ⟨w1, hb1⟩ := x_
        dsimp only
        have HB := Lib.hid hb1
        clear hb1 x0 x1 x2 x3 y0 y1
        go_wp2
        go_roundw
        case rel => exact ⟨p, (p + q) / 2, by omega, by omega, rfl, by go_num, hlo, HH, Lib.hid (bl_then hw.out HB.out)⟩
        case measure => simp [intOf]; omega
    · obtain rfl : p = q := by omega
      have FI : Hid (SRis l → (∀ t (ht : t < l.length), t < p → ltD l[t].d d = true) ∧ (∀ t (ht : t < l.length), p ≤ t → ltD l[t].d d = false)) := Lib.hid fun hs => ⟨hlo.out hs, hhi.out hs⟩
      by_cases hend : p < l.length
      · have i0 : (0 : Int) ≤ (p : Int) := by omega
        have i1 : (p : Int) < (l.length : Int) := by omega
        have d1 : decide (p < l.length) = true := by simpa using hend
        have d2 : decide ((p : Int) < (l.length : Int)) = true := by simpa using hend
        obtain ⟨ad, rfl, hb0, c0, c1, c2, c3⟩ := sib_at HR1 p hend
        have x0 := over_cell c0
        have x1 := over_cell c1
        have x2 := over_cell c2
        have x3 := over_cell c3
        clear HR1 c0 c1 c2 c3
        rcases cmpD_three l[p].d d with ⟨hc, hr⟩ | ⟨hc, he, hr⟩ | ⟨hc, hn, hr⟩
        · have HC := Lib.hid hr
          have HO : Hid (l[p].d ≠ d) := Lib.hid (fun e => by rw [e, ltD_irrefl] at hc; cases hc)
          clear hc hr
          go_wp2
          refine over_region (W := wr) (by kernel_rfl) (by kernel_rfl) (by repeat (first | exact Below.refl _ _ | refine bl_drewN ?_ _ | refine bl_drew ?_ | refine bl_alloc ?_ _)) ?_
          repeat (go_big_quiet_step (refine over_of (sibCmpP_any _ _ _ HC.out _)))
          refine wpQuiet_nil ?_
          intro _ hx_
          obtain ⟨x_, hx_⟩ := hx_
          subst hx_
          obtain ⟨w1, hb1⟩ := x_
          dsimp only
          have HB := Lib.hid hb1
          clear hb1 x0 x1 x2 x3 y0 y1
          go_wp2
          go_ret2
          exact ⟨⟨p, false, rfl, by omega, FI.out, ⟨fun h => (by cases h), fun ⟨_, h⟩ => absurd h HO.out⟩⟩, bl_then LW.out (bl_then hw.out HB.out)⟩
        · have HC := Lib.hid hr
          have HO : Hid (l[p].d = d) := Lib.hid he
          clear hc he hr
          go_wp2
          refine over_region (W := wr) (by kernel_rfl) (by kernel_rfl) (by repeat (first | exact Below.refl _ _ | refine bl_drewN ?_ _ | refine bl_drew ?_ | refine bl_alloc ?_ _)) ?_
          repeat (go_big_quiet_step (refine over_of (sibCmpP_any _ _ _ HC.out _)))
          refine wpQuiet_nil ?_
          intro _ hx_
          obtain ⟨x_, hx_⟩ := hx_
          subst hx_
          obtain ⟨w1, hb1⟩ := x_
          dsimp only
          have HB := Lib.hid hb1
          clear hb1 x0 x1 x2 x3 y0 y1
          go_wp2
          go_ret2
          exact ⟨⟨p, true, rfl, by omega, FI.out, ⟨fun _ => ⟨hend, HO.out⟩, fun _ => rfl⟩⟩, bl_then LW.out (bl_then hw.out HB.out)⟩
        · have HC := Lib.hid hr
          have HO : Hid (l[p].d ≠ d) := Lib.hid hn
          clear hc hn hr
          go_wp2
          refine over_region (W := wr) (by kernel_rfl) (by kernel_rfl) (by repeat (first | exact Below.refl _ _ | refine bl_drewN ?_ _ | refine bl_drew ?_ | refine bl_alloc ?_ _)) ?_
          repeat (go_big_quiet_step (refine over_of (sibCmpP_any _ _ _ HC.out _)))
          refine wpQuiet_nil ?_
          intro _ hx_
          obtain ⟨x_, hx_⟩ := hx_
          subst hx_
          obtain ⟨w1, hb1⟩ := x_
          dsimp only
          have HB := Lib.hid hb1
          clear hb1 x0 x1 x2 x3 y0 y1
          go_wp2
          go_ret2
          exact ⟨⟨p, false, rfl, by omega, FI.out, ⟨fun h => (by cases h), fun ⟨_, h⟩ => absurd h HO.out⟩⟩, bl_then LW.out (bl_then hw.out HB.out)⟩
      · have d1 : decide (p < l.length) = false := by simpa using hend
        have d2 : decide ((p : Int) < (l.length : Int)) = false := by simp; omega
        clear HR1
        go_wp2
        refine over_region (W := wr) (by kernel_rfl) (by kernel_rfl) (by repeat (first | exact Below.refl _ _ | refine bl_drewN ?_ _ | refine bl_drew ?_ | refine bl_alloc ?_ _)) ?_
        repeat (go_big_quiet_step (fail))
        refine wpQuiet_nil ?_
        intro _ hx_
        obtain ⟨x_, hx_⟩ := hx_
        subst hx_
        obtain ⟨w1, hb1⟩ := x_
        dsimp only
        have HB := Lib.hid hb1
        clear hb1 y0 y1
        go_wp2
        go_ret2
        exact ⟨⟨p, false, rfl, by omega, FI.out, ⟨fun h => (by cases h), fun ⟨h, _⟩ => absurd h hend⟩⟩, bl_then LW.out (bl_then hw.out HB.out)⟩
end Go.Proofs.Ytljfigikkajlnaa
