/- DERIVED. The library's sort: what a partition keeps, plainly. The library's sort: those equal to the pivot set apart. The library's sort: a partition about a pivot. (Several texts in one: SkPt, SkParE, SkPar.) -/
import Derived.Test.YtpklkjekkbpeoaaSkSoA
import Derived.Deep.CutBlock
namespace Go.Proofs.Ytpklkjekkbpeoaa
open Go.RowKit
set_option linter.unusedVariables false
set_option linter.unusedSimpArgs false
attribute [local irreducible] mixN

/-- Between the scans: left of i all are q of the pivot, right of j none. -/
structure Pt (q : It → It → Bool) (a b i j : Nat) (d d' : Array It) : Prop where
  p : Sort.PermIn a b d d'
  lo : ∀ t, a < t → t < i → q d'[a]! d'[t]! = true
  hi : ∀ t, j < t → t < b → q d'[a]! d'[t]! = false
  i1 : a < i
  ij : i ≤ j + 1
  jb : j < b
theorem pt_start {q : It → It → Bool} {a b p z : Nat} {d : Array It} (hb : b ≤ d.size) (hz : z + 1 = b) (h1 : a ≤ p) (h2 : p < b) : Pt q a b (a + 1) z d (Sort.swp d a p) :=
  ⟨Sort.swp_permIn d a b a p (Nat.le_refl _) (by omega) h1 h2 hb, fun t _ _ => by omega, fun t _ _ => by omega, by omega, by omega, by omega⟩
theorem pt_up {q : It → It → Bool} {a b i j : Nat} {d d' : Array It} (h : Pt q a b i j d d') (hij : i ≤ j) (hq : q d'[a]! d'[i]! = true) : Pt q a b (i + 1) j d d' :=
  ⟨h.p, fun t h1 h2 => by
    rcases Nat.lt_succ_iff_lt_or_eq.1 h2 with h3 | rfl
    · exact h.lo t h1 h3
    · exact hq, h.hi, by have := h.i1; omega, by omega, h.jb⟩
theorem pt_down {q : It → It → Bool} {a b i j z : Nat} {d d' : Array It} (h : Pt q a b i j d d') (hij : i ≤ j) (hz : z + 1 = j) (hq : q d'[a]! d'[j]! = false) : Pt q a b i z d d' :=
  ⟨h.p, h.lo, fun t h1 h2 => by
    rcases Nat.lt_or_ge j t with h3 | h3
    · exact h.hi t h3 h2
    · obtain rfl : t = j := by omega
      exact hq, h.i1, by omega, by have := h.jb; omega⟩
theorem pt_swap {q : It → It → Bool} {a b i j z : Nat} {d d' : Array It} (h : Pt q a b i j d d') (hb : b ≤ d.size) (hij : i ≤ j) (hz : z + 1 = j) (hi : q d'[a]! d'[i]! = false) (hj : q d'[a]! d'[j]! = true) : i < j ∧ Pt q a b (i + 1) z d (Sort.swp d' i j) := by
  have hne : i ≠ j := fun e => by rw [e, hj] at hi; cases hi
  have hlt : i < j := by omega
  have i1 := h.i1
  have jb := h.jb
  have hs : d'.size = d.size := h.p.1
  have ha : (Sort.swp d' i j)[a]! = d'[a]! := Sort.swp_other d' i j a (by omega) (by omega)
  refine ⟨hlt, perm_swp h.p hb (by omega) (by omega) (by omega) jb, fun t h1 h2 => ?_, fun t h1 h2 => ?_, by omega, by omega, by omega⟩
  · rw [ha]
    rcases Nat.lt_succ_iff_lt_or_eq.1 h2 with h3 | rfl
    · rw [Sort.swp_other d' i j t (by omega) (by omega)]
      exact h.lo t h1 h3
    · rw [Sort.swp_left d' t j (by omega) hne]
      exact hj
  · rw [ha]
    rcases Nat.lt_or_ge j t with h3 | h3
    · rw [Sort.swp_other d' i j t (by omega) (by omega)]
      exact h.hi t h3 h2
    · obtain rfl : t = j := by omega
      rw [Sort.swp_right d' i t (by omega)]
      exact hi
/-- What partition leaves: less left of m, not less right of it. -/
structure Parted (a b m : Nat) (d d' : Array It) : Prop where
  p : Sort.PermIn a b d d'
  am : a ≤ m
  mb : m < b
  lo : ∀ t, a ≤ t → t < m → ltI d'[t]! d'[m]! = true
  hi : ∀ t, m < t → t < b → ltI d'[t]! d'[m]! = false
theorem pt_parted {a b i j : Nat} {d d' : Array It} (h : Pt (fun v x => ltI x v) a b i j d d') (hb : b ≤ d.size) (hij : ¬ i ≤ j) : Parted a b j d (Sort.swp d' j a) := by
  have i1 := h.i1
  have ij := h.ij
  have jb := h.jb
  have hs : d'.size = d.size := h.p.1
  have hm : (Sort.swp d' j a)[j]! = d'[a]! := by
    by_cases e : j = a
    · subst e; exact Sort.swp_right d' j j (by omega)
    · exact Sort.swp_left d' j a (by omega) e
  refine ⟨perm_swp h.p hb (by omega) jb (Nat.le_refl _) (by omega), by omega, jb, fun t h1 h2 => ?_, fun t h1 h2 => ?_⟩
  · rw [hm]
    rcases Nat.lt_or_ge a t with h3 | h3
    · rw [Sort.swp_other d' j a t (by omega) (by omega)]
      exact h.lo t h3 (by omega)
    · obtain rfl : t = a := by omega
      rw [Sort.swp_right d' j t (by omega)]
      exact h.lo j (by omega) (by omega)
  · rw [hm, Sort.swp_other d' j a t (by omega) (by omega)]
    exact h.hi t h1 h2
/-- What partitionEqual leaves: those that the pivot is not less than, then those that it is less than. -/
structure Equaled (a b m p : Nat) (d d' : Array It) : Prop where
  pm : Sort.PermIn a b d d'
  am : a < m
  mb : m ≤ b
  lo : ∀ t, a ≤ t → t < m → ltI d[p]! d'[t]! = false
  hi : ∀ t, m ≤ t → t < b → ltI d[p]! d'[t]! = true
theorem pt_equaled {a b i j p : Nat} {d d' : Array It} (h : Pt (fun v x => !ltI v x) a b i j d d') (hv : d'[a]! = d[p]!) (hij : ¬ i ≤ j) : Equaled a b i p d d' := by
  have i1 := h.i1
  have ij := h.ij
  have jb := h.jb
  refine ⟨h.p, i1, by omega, fun t h1 h2 => ?_, fun t h1 h2 => ?_⟩
  · rw [← hv]
    rcases Nat.lt_or_ge a t with h3 | h3
    · have := h.lo t h3 h2
      simpa using this
    · obtain rfl : t = a := by omega
      exact ltI_swo.irrefl _
  · rw [← hv]
    have := h.hi t (by omega) h2
    simpa using this
end Go.Proofs.Ytpklkjekkbpeoaa

namespace Go.Proofs.Ytpklkjekkbpeoaa
open Go.RowKit
set_option linter.unusedVariables false
set_option linter.unusedSimpArgs false
attribute [local irreducible] mixN

set_option maxRecDepth 100000 in
set_option maxHeartbeats 51200000 in
theorem equal_any (B c cap a b p : Nat) (d : Array It) (hap : a ≤ p) (hpb : p < b) (hb : b ≤ d.size) (w : World) (h : Arr w B c cap d) :
    Calls Try.prog 85 #[.slice (some ⟨c, 0, none⟩) d.size cap, .int .i64 (a : Int), .int .i64 (b : Int), .int .i64 (p : Int)] w fun e w' => (∃ m : Nat, e = .returned (.int .i64 (m : Int)) ∧ ∃ d' : Array It, Arr w' B c cap d' ∧ Equaled a b m p d d') ∧ w.grownBy w' (some c) := by
  have hs := h.s
  have H := Lib.hid h
  have HBD := Lib.hid hb
  clear h
  obtain ⟨n, hn⟩ : ∃ n, n = d.size := ⟨_, rfl⟩
  rw [← hn] at hb hs ⊢
  have HN := Lib.hid hn
  clear hn
  obtain ⟨z0, hz0⟩ : ∃ z0, z0 + 1 = b := ⟨b - 1, by omega⟩
  have e1 : (b : Int) - 1 = (z0 : Int) := by omega
  have q0 : (0 : Int) ≤ (a : Int) := by omega
  have q1 : (a : Int) < (n : Int) := by omega
  have q2 : (0 : Int) ≤ (p : Int) := by omega
  have q3 : (p : Int) < (n : Int) := by omega
  obtain ⟨a0, f0⟩ := H.out.at_ a (by rw [← HN.out]; omega)
  obtain ⟨a1, f1⟩ := H.out.at_ p (by rw [← HN.out]; omega)
  obtain ⟨u0, hu⟩ : ∃ u0, u0 = d[a]! := ⟨_, rfl⟩
  obtain ⟨v0, hv⟩ : ∃ v0, v0 = d[p]! := ⟨_, rfl⟩
  rw [← hu] at a0
  rw [← hv] at a1
  have hsw := H.out.swp a p
  rw [← hu, ← hv] at hsw
  have AR0 := Lib.hid hsw.drew
  have PT0 := Lib.hid (pt_start (q := (fun v x => !ltI v x)) HBD.out hz0 hap hpb)
  have GG0 := Lib.hid (gr_drew (grown_set2 w c a p (.int .u64 (v0.toNat : Int)) (.int .u64 (u0.toNat : Int))))
  have HV0 := Lib.hid (show (Sort.swp d a p)[a]! = d[p]! by
    by_cases e : a = p
    · subst e; exact Sort.swp_right d a a (by rw [← HN.out]; omega)
    · exact Sort.swp_left d a p (by rw [← HN.out]; omega) e)
  have HZ0 := Lib.hid hz0
  clear hsw hu hv hz0
  go_enter Try.func85, Try.ntmps85
  go_upto_region 1 with fail
  go_cut [8] from 11 to 24 (fun u wx => u = .int .i64 0 ∧ Hid (Arr wx B c cap (Sort.swp d a p)) ∧ Hid (w.grownBy wx (some c)))
  case first =>
    by_cases hap2 : a = p
    · subst hap2
      have huv : u0 = v0 := by
        rw [a0] at a1
        have := Option.some.inj a1
        injection this with _ h2
        exact BitVec.eq_of_toNat_eq (by omega)
      subst huv
      go_region
      go_wp2
      go_meet
      case rel => exact ⟨rfl, AR0, GG0⟩
    · have ne1 : a ≠ p := hap2
      have ne2 : p ≠ a := fun e => hap2 e.symm
      clear hap2
      go_region
      go_wp2
      go_meet
      case rel => exact ⟨rfl, AR0, GG0⟩
  case rest =>
    obtain ⟨rfl, AR1, GG1⟩ := hcut
    obtain ⟨w1, hw_⟩ : ∃ x : World, x = wc := ⟨_, rfl⟩
    subst hw_
    clear a0 a1 f0 f1 AR0 GG0
    obtain ⟨sa, hsa⟩ : ∃ sa, sa = a + 1 := ⟨_, rfl⟩
    have e2 : (a : Int) + 1 = (sa : Int) := by omega
    have PT9 := Lib.hid (show Pt (fun v x => !ltI v x) a b sa z0 d (Sort.swp d a p) from by rw [hsa]; exact PT0.out)
    clear hsa PT0
    go_wp2_with fail
    clear e1 e2
    go_loopw [9, 10] (fun u v w' => ∃ (i j : Nat) (d1 : Array It), u = .int .i64 (i : Int) ∧ v = .int .i64 (j : Int) ∧ Hid (Pt (fun v x => !ltI v x) a b i j d d1) ∧ Hid (Arr w' B c cap d1) ∧ Hid (w.grownBy w' (some c)) ∧ Hid (d1[a]! = d[p]!)) (fun u v _ => (intOf v + 1 - intOf u).toNat)
    case atStart => exact ⟨sa, z0, Sort.swp d a p, rfl, rfl, PT9, AR1, GG1, HV0⟩
    case round =>
      obtain ⟨W0, hw_⟩ : ∃ x : World, x = wr := ⟨_, rfl⟩
      subst hw_
      obtain ⟨i, j, d1, rfl, rfl, pt0, ar0, gg0, hv0⟩ := hrel
      go_upto_block 2 with fail
      go_cut [9] from 29 to 45 (fun u wx => ∃ i' : Nat, i ≤ i' ∧ u = .int .i64 (i' : Int) ∧ Hid (Pt (fun v x => !ltI v x) a b i' j d d1) ∧ Hid (Arr wx B c cap d1) ∧ Hid (w.grownBy wx (some c)) ∧ Hid (i' ≤ j → ((fun v x => !ltI v x)) d1[a]! d1[i']! = false))
      case first =>
        go_wp2_with fail
        go_loopw [9] (fun u w' => ∃ i' : Nat, i ≤ i' ∧ u = .int .i64 (i' : Int) ∧ Hid (Pt (fun v x => !ltI v x) a b i' j d d1) ∧ Hid (Arr w' B c cap d1) ∧ Hid (w.grownBy w' (some c))) (fun u _ => j + 1 - (intOf u).toNat)
        case atStart => exact ⟨i, Nat.le_refl _, rfl, pt0, ar0, gg0⟩
        case round =>
          obtain ⟨Wa, hw_⟩ : ∃ x : World, x = wr := ⟨_, rfl⟩
          subst hw_
          obtain ⟨i', mono, rfl, pt, ar, gg⟩ := hrel
          have i1 := pt.out.i1
          have ij := pt.out.ij
          have jb := pt.out.jb
          by_cases hij : i' ≤ j
          · have k1 : (i' : Int) ≤ (j : Int) := by omega
            have k2 : decide ((i' : Int) ≤ (j : Int)) = true := decide_eq_true k1
            have q0 : (0 : Int) ≤ (i' : Int) := by omega
            have q1 : (i' : Int) < (n : Int) := by omega
            have q2 : (0 : Int) ≤ (a : Int) := by omega
            have q3 : (a : Int) < (n : Int) := by omega
            obtain ⟨a0, _⟩ := ar.out.at_ i' (by rw [pt.out.p.1, ← HN.out]; omega)
            obtain ⟨a1, _⟩ := ar.out.at_ a (by rw [pt.out.p.1, ← HN.out]; omega)
            obtain ⟨x, hx⟩ : ∃ x, x = d1[i']! := ⟨_, rfl⟩
            obtain ⟨v, hv⟩ : ∃ v, v = d1[a]! := ⟨_, rfl⟩
            rw [← hx] at a0
            rw [← hv] at a1
            have HX := Lib.hid hx
            have HV := Lib.hid hv
            clear hx hv
            have o0 := over_cell a0
            have o1 := over_cell a1
            rcases hl : ltI v x with _ | _
            · have hless := less_any v x
              rw [hl] at hless
              have HLT := Lib.hid hl
              clear hl
              go_upto_region 3 with fail
              refine over_region (W := Wa) (by kernel_rfl) (by kernel_rfl) (by repeat (first | exact Below.refl _ _ | refine bl_drewN ?_ _ | refine bl_drew ?_ | refine bl_alloc ?_ _)) ?_
              repeat (go_big_quiet_step (exact over_same (hless _)))
              refine wpQuiet_nil ?_
              intro _ hx_
              obtain ⟨x_, hx_⟩ := hx_
              subst hx_
              obtain ⟨w3, hb3⟩ := x_
              dsimp only
              have ar3 := Lib.hid (ar.out.below hb3)
              have gg3 := Lib.hid (gr_bl gg.out hb3)
              clear hb3 o0 o1 a0 a1 hless
              go_wp2
              go_roundw
              case rel => exact ⟨i' + 1, by omega, by go_num, Lib.hid (pt_up pt.out hij (by show ((fun v x => !ltI v x)) d1[a]! d1[i']! = true; rw [← HX.out, ← HV.out]; simp only [HLT.out]; try rfl)), ar3, gg3⟩
              case measure => simp [intOf]; omega
            · have hless := less_any v x
              rw [hl] at hless
              have HLT := Lib.hid hl
              clear hl
              go_upto_region 3 with fail
              refine over_region (W := Wa) (by kernel_rfl) (by kernel_rfl) (by repeat (first | exact Below.refl _ _ | refine bl_drewN ?_ _ | refine bl_drew ?_ | refine bl_alloc ?_ _)) ?_
              repeat (go_big_quiet_step (exact over_same (hless _)))
              refine wpQuiet_nil ?_
              intro _ hx_
              obtain ⟨x_, hx_⟩ := hx_
              subst hx_
              obtain ⟨w3, hb3⟩ := x_
              dsimp only
              have ar3 := Lib.hid (ar.out.below hb3)
              have gg3 := Lib.hid (gr_bl gg.out hb3)
              clear hb3 o0 o1 a0 a1 hless
              go_wp2
              go_meet
              case rel => exact ⟨i', mono, rfl, pt, ar3, gg3, Lib.hid (fun _ => by show ((fun v x => !ltI v x)) d1[a]! d1[i']! = false; rw [← HX.out, ← HV.out]; simp only [HLT.out]; try rfl)⟩
          · have k1 : ¬ (i' : Int) ≤ (j : Int) := by omega
            have k2 : decide ((i' : Int) ≤ (j : Int)) = false := decide_eq_false k1
            go_upto_region 3 with fail
            refine over_region (W := Wa) (by kernel_rfl) (by kernel_rfl) (by repeat (first | exact Below.refl _ _ | refine bl_drewN ?_ _ | refine bl_drew ?_ | refine bl_alloc ?_ _)) ?_
            repeat (go_big_quiet_step (fail))
            refine wpQuiet_nil ?_
            intro _ hx_
            obtain ⟨x_, hx_⟩ := hx_
            subst hx_
            obtain ⟨w3, hb3⟩ := x_
            dsimp only
            have ar3 := Lib.hid (ar.out.below hb3)
            have gg3 := Lib.hid (gr_bl gg.out hb3)
            clear hb3
            go_wp2
            go_meet
            case rel => exact ⟨i', mono, rfl, pt, ar3, gg3, Lib.hid (fun h => absurd h hij)⟩
      case rest =>
        obtain ⟨i', mo_i, rfl, pt1, ar1, gg1, hu⟩ := hcut
        obtain ⟨W1, hw_⟩ : ∃ x : World, x = wc := ⟨_, rfl⟩
        subst hw_
        go_upto_block 4 with fail
        go_cut [10] from 46 to 61 (fun u wx => ∃ j' : Nat, j' ≤ j ∧ u = .int .i64 (j' : Int) ∧ Hid (Pt (fun v x => !ltI v x) a b i' j' d d1) ∧ Hid (Arr wx B c cap d1) ∧ Hid (w.grownBy wx (some c)) ∧ Hid (i' ≤ j' → ((fun v x => !ltI v x)) d1[a]! d1[j']! = true))
        case first =>
          go_wp2_with fail
          go_loopw [10] (fun u w' => ∃ j' : Nat, j' ≤ j ∧ u = .int .i64 (j' : Int) ∧ Hid (Pt (fun v x => !ltI v x) a b i' j' d d1) ∧ Hid (Arr w' B c cap d1) ∧ Hid (w.grownBy w' (some c))) (fun u _ => (intOf u).toNat)
          case atStart => exact ⟨j, Nat.le_refl _, rfl, pt1, ar1, gg1⟩
          case round =>
            obtain ⟨Wb, hw_⟩ : ∃ x : World, x = wr := ⟨_, rfl⟩
            subst hw_
            obtain ⟨j', mono, rfl, pt, ar, gg⟩ := hrel
            have i1 := pt.out.i1
            have ij := pt.out.ij
            have jb := pt.out.jb
            by_cases hij : i' ≤ j'
            · have k1 : (i' : Int) ≤ (j' : Int) := by omega
              have k2 : decide ((i' : Int) ≤ (j' : Int)) = true := decide_eq_true k1
              have q0 : (0 : Int) ≤ (j' : Int) := by omega
              have q1 : (j' : Int) < (n : Int) := by omega
              have q2 : (0 : Int) ≤ (a : Int) := by omega
              have q3 : (a : Int) < (n : Int) := by omega
              obtain ⟨a0, _⟩ := ar.out.at_ j' (by rw [pt.out.p.1, ← HN.out]; omega)
              obtain ⟨a1, _⟩ := ar.out.at_ a (by rw [pt.out.p.1, ← HN.out]; omega)
              obtain ⟨x, hx⟩ : ∃ x, x = d1[j']! := ⟨_, rfl⟩
              obtain ⟨v, hv⟩ : ∃ v, v = d1[a]! := ⟨_, rfl⟩
              rw [← hx] at a0
              rw [← hv] at a1
              have HX := Lib.hid hx
              have HV := Lib.hid hv
              clear hx hv
              have o0 := over_cell a0
              have o1 := over_cell a1
              rcases hl : ltI v x with _ | _
              · have hless := less_any v x
                rw [hl] at hless
                have HLT := Lib.hid hl
                clear hl
                go_upto_region 5 with fail
                refine over_region (W := Wb) (by kernel_rfl) (by kernel_rfl) (by repeat (first | exact Below.refl _ _ | refine bl_drewN ?_ _ | refine bl_drew ?_ | refine bl_alloc ?_ _)) ?_
                repeat (go_big_quiet_step (exact over_same (hless _)))
                refine wpQuiet_nil ?_
                intro _ hx_
                obtain ⟨x_, hx_⟩ := hx_
                subst hx_
                obtain ⟨w3, hb3⟩ := x_
                dsimp only
                have ar3 := Lib.hid (ar.out.below hb3)
                have gg3 := Lib.hid (gr_bl gg.out hb3)
                clear hb3 o0 o1 a0 a1 hless
                go_wp2
                go_meet
                case rel => exact ⟨j', mono, rfl, pt, ar3, gg3, Lib.hid (fun _ => by show ((fun v x => !ltI v x)) d1[a]! d1[j']! = true; rw [← HX.out, ← HV.out]; simp only [HLT.out]; try rfl)⟩
              · have hless := less_any v x
                rw [hl] at hless
                have HLT := Lib.hid hl
                clear hl
                go_upto_region 5 with fail
                refine over_region (W := Wb) (by kernel_rfl) (by kernel_rfl) (by repeat (first | exact Below.refl _ _ | refine bl_drewN ?_ _ | refine bl_drew ?_ | refine bl_alloc ?_ _)) ?_
                repeat (go_big_quiet_step (exact over_same (hless _)))
                refine wpQuiet_nil ?_
                intro _ hx_
                obtain ⟨x_, hx_⟩ := hx_
                subst hx_
                obtain ⟨w3, hb3⟩ := x_
                dsimp only
                have ar3 := Lib.hid (ar.out.below hb3)
                have gg3 := Lib.hid (gr_bl gg.out hb3)
                clear hb3 o0 o1 a0 a1 hless
                obtain ⟨z, hz⟩ : ∃ z, z + 1 = j' := ⟨j' - 1, by omega⟩
                have e9 : (j' : Int) - 1 = (z : Int) := by omega
                have HZ := Lib.hid hz
                clear hz
                go_wp2
                go_roundw
                case rel => exact ⟨z, by have := HZ.out; omega, by first | rfl | go_num, Lib.hid (pt_down pt.out hij HZ.out (by show ((fun v x => !ltI v x)) d1[a]! d1[j']! = false; rw [← HX.out, ← HV.out]; simp only [HLT.out]; try rfl)), ar3, gg3⟩
                case measure => (have := HZ.out; simp [intOf]; omega)
            · have k1 : ¬ (i' : Int) ≤ (j' : Int) := by omega
              have k2 : decide ((i' : Int) ≤ (j' : Int)) = false := decide_eq_false k1
              go_upto_region 5 with fail
              refine over_region (W := Wb) (by kernel_rfl) (by kernel_rfl) (by repeat (first | exact Below.refl _ _ | refine bl_drewN ?_ _ | refine bl_drew ?_ | refine bl_alloc ?_ _)) ?_
              repeat (go_big_quiet_step (fail))
              refine wpQuiet_nil ?_
              intro _ hx_
              obtain ⟨x_, hx_⟩ := hx_
              subst hx_
              obtain ⟨w3, hb3⟩ := x_
              dsimp only
              have ar3 := Lib.hid (ar.out.below hb3)
              have gg3 := Lib.hid (gr_bl gg.out hb3)
              clear hb3
              go_wp2
              go_meet
              case rel => exact ⟨j', mono, rfl, pt, ar3, gg3, Lib.hid (fun h => absurd h hij)⟩
        case rest =>
          obtain ⟨j', mo_j, rfl, pt2, ar2, gg2, hd⟩ := hcut
          obtain ⟨W2, hw_⟩ : ∃ x : World, x = wc := ⟨_, rfl⟩
          subst hw_
          by_cases hij2 : i' ≤ j'
          · have k1 : ¬ (j' : Int) < (i' : Int) := by omega
            have k2 : decide ((j' : Int) < (i' : Int)) = false := decide_eq_false k1
            have k3 : (i' : Int) ≤ (j' : Int) := by omega
            obtain ⟨zz, hzz⟩ : ∃ zz, zz + 1 = j' := ⟨j' - 1, by have := pt2.out.i1; omega⟩
            have hps := pt_swap pt2.out HBD.out hij2 hzz (hu.out (by omega)) (hd.out hij2)
            obtain ⟨hltij, hps⟩ := hps
            have PS := Lib.hid hps
            have i1 := pt2.out.i1
            have jb := pt2.out.jb
            have hsz2 : d1.size = n := by rw [pt2.out.p.1]; exact HN.out.symm
            have HV3 := Lib.hid (show (Sort.swp d1 i' j')[a]! = d[p]! by rw [Sort.swp_other d1 i' j' a (by omega) (by omega)]; exact hv0.out)
            have q0 : (0 : Int) ≤ (i' : Int) := by omega
            have q1 : (i' : Int) < (n : Int) := by omega
            have q2 : (0 : Int) ≤ (j' : Int) := by omega
            have q3 : (j' : Int) < (n : Int) := by omega
            obtain ⟨a0, f0⟩ := ar2.out.at_ i' (by omega)
            obtain ⟨a1, f1⟩ := ar2.out.at_ j' (by omega)
            obtain ⟨x, hx⟩ : ∃ x, x = d1[i']! := ⟨_, rfl⟩
            obtain ⟨y, hy⟩ : ∃ y, y = d1[j']! := ⟨_, rfl⟩
            rw [← hx] at a0
            rw [← hy] at a1
            have hsw := ar2.out.swp i' j'
            rw [← hx, ← hy] at hsw
            have AS := Lib.hid hsw.drew
            have GS := Lib.hid (gr_then gg2.out (gr_drew (grown_set2 W2 c i' j' (.int .u64 (y.toNat : Int)) (.int .u64 (x.toNat : Int)))))
            have ne1 : i' ≠ j' := by omega
            have ne2 : j' ≠ i' := by omega
            have e9 : (j' : Int) - 1 = (zz : Int) := by omega
            have HZZ := Lib.hid hzz
            clear hsw hx hy hps hzz hsz2
            go_upto_region 8 with fail
            go_region
            clear a0 a1 f0 f1
            go_wp2
            go_roundw
            case rel => exact ⟨i' + 1, zz, _, by go_num, by first | rfl | go_num, PS, AS, GS, HV3⟩
            case measure => (have := HZZ.out; have := pt2.out.ij; have := pt0.out.ij; simp [intOf]; omega)
          · have k1 : (j' : Int) < (i' : Int) := by omega
            have k2 : decide ((j' : Int) < (i' : Int)) = true := decide_eq_true k1
            go_wp2
            go_ret
            exact ⟨⟨i', rfl, d1, ar2.out, pt_equaled pt2.out hv0.out hij2⟩, gg2.out⟩
end Go.Proofs.Ytpklkjekkbpeoaa

namespace Go.Proofs.Ytpklkjekkbpeoaa
open Go.RowKit
set_option linter.unusedVariables false
set_option linter.unusedSimpArgs false
attribute [local irreducible] mixN

def PartRes (e : Ending) (w' : World) (B c cap a b : Nat) (d : Array It) : Prop := ∃ (m : Nat) (t : Bool), e = .returned (.tuple #[.int .i64 (m : Int), .bool t]) ∧ ∃ d' : Array It, Arr w' B c cap d' ∧ Parted a b m d d'
theorem partRes_mk {e : Ending} {w' : World} {B c cap a b : Nat} {d d' : Array It} (m : Nat) (t : Bool) (h1 : e = .returned (.tuple #[.int .i64 (m : Int), .bool t])) (h2 : Arr w' B c cap d') (h3 : Parted a b m d d') : PartRes e w' B c cap a b d := ⟨m, t, h1, d', h2, h3⟩
set_option maxRecDepth 100000 in
set_option maxHeartbeats 51200000 in
theorem part_any (B c cap a b p : Nat) (d : Array It) (hap : a ≤ p) (hpb : p < b) (hb : b ≤ d.size) (w : World) (h : Arr w B c cap d) :
    Calls Try.prog 86 #[.slice (some ⟨c, 0, none⟩) d.size cap, .int .i64 (a : Int), .int .i64 (b : Int), .int .i64 (p : Int)] w fun e w' => PartRes e w' B c cap a b d ∧ w.grownBy w' (some c) := by
  have hs := h.s
  have H := Lib.hid h
  have HBD := Lib.hid hb
  clear h
  obtain ⟨n, hn⟩ : ∃ n, n = d.size := ⟨_, rfl⟩
  rw [← hn] at hb hs ⊢
  have HN := Lib.hid hn
  clear hn
  obtain ⟨z0, hz0⟩ : ∃ z0, z0 + 1 = b := ⟨b - 1, by omega⟩
  have e1 : (b : Int) - 1 = (z0 : Int) := by omega
  have q0 : (0 : Int) ≤ (a : Int) := by omega
  have q1 : (a : Int) < (n : Int) := by omega
  have q2 : (0 : Int) ≤ (p : Int) := by omega
  have q3 : (p : Int) < (n : Int) := by omega
  obtain ⟨a0, f0⟩ := H.out.at_ a (by rw [← HN.out]; omega)
  obtain ⟨a1, f1⟩ := H.out.at_ p (by rw [← HN.out]; omega)
  obtain ⟨u0, hu⟩ : ∃ u0, u0 = d[a]! := ⟨_, rfl⟩
  obtain ⟨v0, hv⟩ : ∃ v0, v0 = d[p]! := ⟨_, rfl⟩
  rw [← hu] at a0
  rw [← hv] at a1
  have hsw := H.out.swp a p
  rw [← hu, ← hv] at hsw
  have AR0 := Lib.hid hsw.drew
  have PT0 := Lib.hid (pt_start (q := (fun v x => ltI x v)) HBD.out hz0 hap hpb)
  have GG0 := Lib.hid (gr_drew (grown_set2 w c a p (.int .u64 (v0.toNat : Int)) (.int .u64 (u0.toNat : Int))))
  have HV0 := Lib.hid (show (Sort.swp d a p)[a]! = d[p]! by
    by_cases e : a = p
    · subst e; exact Sort.swp_right d a a (by rw [← HN.out]; omega)
    · exact Sort.swp_left d a p (by rw [← HN.out]; omega) e)
  have HZ0 := Lib.hid hz0
  clear hsw hu hv hz0
  go_enter Try.func86, Try.ntmps86
  go_upto_region 1 with fail
  go_cut [8] from 12 to 25 (fun u wx => u = .int .i64 0 ∧ Hid (Arr wx B c cap (Sort.swp d a p)) ∧ Hid (w.grownBy wx (some c)))
  case first =>
    by_cases hap2 : a = p
    · subst hap2
      have huv : u0 = v0 := by
        rw [a0] at a1
        have := Option.some.inj a1
        injection this with _ h2
        exact BitVec.eq_of_toNat_eq (by omega)
      subst huv
      go_region
      go_wp2
      go_meet
      case rel => exact ⟨rfl, AR0, GG0⟩
    · have ne1 : a ≠ p := hap2
      have ne2 : p ≠ a := fun e => hap2 e.symm
      clear hap2
      go_region
      go_wp2
      go_meet
      case rel => exact ⟨rfl, AR0, GG0⟩
  case rest =>
    obtain ⟨rfl, AR1, GG1⟩ := hcut
    obtain ⟨w1, hw_⟩ : ∃ x : World, x = wc := ⟨_, rfl⟩
    subst hw_
    clear a0 a1 f0 f1 AR0 GG0
    obtain ⟨sa, hsa⟩ : ∃ sa, sa = a + 1 := ⟨_, rfl⟩
    have e2 : (a : Int) + 1 = (sa : Int) := by omega
    have PT9 := Lib.hid (show Pt (fun v x => ltI x v) a b sa z0 d (Sort.swp d a p) from by rw [hsa]; exact PT0.out)
    clear hsa PT0
    obtain ⟨d0, hd0⟩ : ∃ d0, d0 = Sort.swp d a p := ⟨_, rfl⟩
    rw [← hd0] at PT9 AR1
    clear hd0 HV0
    obtain ⟨i5, hi5⟩ : ∃ i5, i5 = sa := ⟨_, rfl⟩
    obtain ⟨j5, hj5⟩ : ∃ j5, j5 = z0 := ⟨_, rfl⟩
    rw [← hi5] at e2
    rw [← hj5] at e1
    rw [← hi5, ← hj5] at PT9
    clear hi5 hj5
    go_upto_block 0 with fail
    go_cut [10] from 30 to 45 (fun u wx => ∃ i5' : Nat, i5 ≤ i5' ∧ u = .int .i64 (i5' : Int) ∧ Hid (Pt (fun v x => ltI x v) a b i5' j5 d d0) ∧ Hid (Arr wx B c cap d0) ∧ Hid (w.grownBy wx (some c)) ∧ Hid (i5' ≤ j5 → ((fun v x => ltI x v)) d0[a]! d0[i5']! = false))
    case first =>
      go_wp2_with fail
      go_loopw [10] (fun u w' => ∃ i5' : Nat, i5 ≤ i5' ∧ u = .int .i64 (i5' : Int) ∧ Hid (Pt (fun v x => ltI x v) a b i5' j5 d d0) ∧ Hid (Arr w' B c cap d0) ∧ Hid (w.grownBy w' (some c))) (fun u _ => j5 + 1 - (intOf u).toNat)
      case atStart => exact ⟨i5, Nat.le_refl _, rfl, PT9, AR1, GG1⟩
      case round =>
        obtain ⟨Wc, hw_⟩ : ∃ x : World, x = wr := ⟨_, rfl⟩
        subst hw_
        obtain ⟨i5', mono, rfl, pt, ar, gg⟩ := hrel
        have i1 := pt.out.i1
        have ij := pt.out.ij
        have jb := pt.out.jb
        by_cases hij : i5' ≤ j5
        · have k1 : (i5' : Int) ≤ (j5 : Int) := by omega
          have k2 : decide ((i5' : Int) ≤ (j5 : Int)) = true := decide_eq_true k1
          have q0 : (0 : Int) ≤ (i5' : Int) := by omega
          have q1 : (i5' : Int) < (n : Int) := by omega
          have q2 : (0 : Int) ≤ (a : Int) := by omega
          have q3 : (a : Int) < (n : Int) := by omega
          obtain ⟨a0, _⟩ := ar.out.at_ i5' (by rw [pt.out.p.1, ← HN.out]; omega)
          obtain ⟨a1, _⟩ := ar.out.at_ a (by rw [pt.out.p.1, ← HN.out]; omega)
          obtain ⟨x, hx⟩ : ∃ x, x = d0[i5']! := ⟨_, rfl⟩
          obtain ⟨v, hv⟩ : ∃ v, v = d0[a]! := ⟨_, rfl⟩
          rw [← hx] at a0
          rw [← hv] at a1
          have HX := Lib.hid hx
          have HV := Lib.hid hv
          clear hx hv
          have o0 := over_cell a0
          have o1 := over_cell a1
          rcases hl : ltI x v with _ | _
          · have hless := less_any x v
            rw [hl] at hless
            have HLT := Lib.hid hl
            clear hl
            go_upto_region 3 with fail
            refine over_region (W := Wc) (by kernel_rfl) (by kernel_rfl) (by repeat (first | exact Below.refl _ _ | refine bl_drewN ?_ _ | refine bl_drew ?_ | refine bl_alloc ?_ _)) ?_
            repeat (go_big_quiet_step (exact over_same (hless _)))
            refine wpQuiet_nil ?_
            intro _ hx_
            obtain ⟨x_, hx_⟩ := hx_
            subst hx_
            obtain ⟨w3, hb3⟩ := x_
            dsimp only
            have ar3 := Lib.hid (ar.out.below hb3)
            have gg3 := Lib.hid (gr_bl gg.out hb3)
            clear hb3 o0 o1 a0 a1 hless
            go_wp2
            go_meet
            case rel => exact ⟨i5', mono, rfl, pt, ar3, gg3, Lib.hid (fun _ => by show ((fun v x => ltI x v)) d0[a]! d0[i5']! = false; rw [← HX.out, ← HV.out]; simp only [HLT.out]; try rfl)⟩
          · have hless := less_any x v
            rw [hl] at hless
            have HLT := Lib.hid hl
            clear hl
            go_upto_region 3 with fail
            refine over_region (W := Wc) (by kernel_rfl) (by kernel_rfl) (by repeat (first | exact Below.refl _ _ | refine bl_drewN ?_ _ | refine bl_drew ?_ | refine bl_alloc ?_ _)) ?_
            repeat (go_big_quiet_step (exact over_same (hless _)))
            refine wpQuiet_nil ?_
            intro _ hx_
            obtain ⟨x_, hx_⟩ := hx_
            subst hx_
            obtain ⟨w3, hb3⟩ := x_
            dsimp only
            have ar3 := Lib.hid (ar.out.below hb3)
            have gg3 := Lib.hid (gr_bl gg.out hb3)
            clear hb3 o0 o1 a0 a1 hless
            go_wp2
            go_roundw
            case rel => exact ⟨i5' + 1, by omega, by go_num, Lib.hid (pt_up pt.out hij (by show ((fun v x => ltI x v)) d0[a]! d0[i5']! = true; rw [← HX.out, ← HV.out]; simp only [HLT.out]; try rfl)), ar3, gg3⟩
            case measure => simp [intOf]; omega
        · have k1 : ¬ (i5' : Int) ≤ (j5 : Int) := by omega
          have k2 : decide ((i5' : Int) ≤ (j5 : Int)) = false := decide_eq_false k1
          go_upto_region 3 with fail
          refine over_region (W := Wc) (by kernel_rfl) (by kernel_rfl) (by repeat (first | exact Below.refl _ _ | refine bl_drewN ?_ _ | refine bl_drew ?_ | refine bl_alloc ?_ _)) ?_
          repeat (go_big_quiet_step (fail))
          refine wpQuiet_nil ?_
          intro _ hx_
          obtain ⟨x_, hx_⟩ := hx_
          subst hx_
          obtain ⟨w3, hb3⟩ := x_
          dsimp only
          have ar3 := Lib.hid (ar.out.below hb3)
          have gg3 := Lib.hid (gr_bl gg.out hb3)
          clear hb3
          go_wp2
          go_meet
          case rel => exact ⟨i5', mono, rfl, pt, ar3, gg3, Lib.hid (fun h => absurd h hij)⟩
    case rest =>
      obtain ⟨i5', mo_i5, rfl, pt5, ar5, gg5, hu5⟩ := hcut
      obtain ⟨W5, hw_⟩ : ∃ x : World, x = wc := ⟨_, rfl⟩
      subst hw_
      go_upto_block 2 with fail
      go_cut [11] from 46 to 62 (fun u wx => ∃ j5' : Nat, j5' ≤ j5 ∧ u = .int .i64 (j5' : Int) ∧ Hid (Pt (fun v x => ltI x v) a b i5' j5' d d0) ∧ Hid (Arr wx B c cap d0) ∧ Hid (w.grownBy wx (some c)) ∧ Hid (i5' ≤ j5' → ((fun v x => ltI x v)) d0[a]! d0[j5']! = true))
      case first =>
        go_wp2_with fail
        go_loopw [11] (fun u w' => ∃ j5' : Nat, j5' ≤ j5 ∧ u = .int .i64 (j5' : Int) ∧ Hid (Pt (fun v x => ltI x v) a b i5' j5' d d0) ∧ Hid (Arr w' B c cap d0) ∧ Hid (w.grownBy w' (some c))) (fun u _ => (intOf u).toNat)
        case atStart => exact ⟨j5, Nat.le_refl _, rfl, pt5, ar5, gg5⟩
        case round =>
          obtain ⟨Wd, hw_⟩ : ∃ x : World, x = wr := ⟨_, rfl⟩
          subst hw_
          obtain ⟨j5', mono, rfl, pt, ar, gg⟩ := hrel
          have i1 := pt.out.i1
          have ij := pt.out.ij
          have jb := pt.out.jb
          by_cases hij : i5' ≤ j5'
          · have k1 : (i5' : Int) ≤ (j5' : Int) := by omega
            have k2 : decide ((i5' : Int) ≤ (j5' : Int)) = true := decide_eq_true k1
            have q0 : (0 : Int) ≤ (j5' : Int) := by omega
            have q1 : (j5' : Int) < (n : Int) := by omega
            have q2 : (0 : Int) ≤ (a : Int) := by omega
            have q3 : (a : Int) < (n : Int) := by omega
            obtain ⟨a0, _⟩ := ar.out.at_ j5' (by rw [pt.out.p.1, ← HN.out]; omega)
            obtain ⟨a1, _⟩ := ar.out.at_ a (by rw [pt.out.p.1, ← HN.out]; omega)
            obtain ⟨x, hx⟩ : ∃ x, x = d0[j5']! := ⟨_, rfl⟩
            obtain ⟨v, hv⟩ : ∃ v, v = d0[a]! := ⟨_, rfl⟩
            rw [← hx] at a0
            rw [← hv] at a1
            have HX := Lib.hid hx
            have HV := Lib.hid hv
            clear hx hv
            have o0 := over_cell a0
            have o1 := over_cell a1
            rcases hl : ltI x v with _ | _
            · have hless := less_any x v
              rw [hl] at hless
              have HLT := Lib.hid hl
              clear hl
              go_upto_region 5 with fail
              refine over_region (W := Wd) (by kernel_rfl) (by kernel_rfl) (by repeat (first | exact Below.refl _ _ | refine bl_drewN ?_ _ | refine bl_drew ?_ | refine bl_alloc ?_ _)) ?_
              repeat (go_big_quiet_step (exact over_same (hless _)))
              refine wpQuiet_nil ?_
              intro _ hx_
              obtain ⟨x_, hx_⟩ := hx_
              subst hx_
              obtain ⟨w3, hb3⟩ := x_
              dsimp only
              have ar3 := Lib.hid (ar.out.below hb3)
              have gg3 := Lib.hid (gr_bl gg.out hb3)
              clear hb3 o0 o1 a0 a1 hless
              obtain ⟨z, hz⟩ : ∃ z, z + 1 = j5' := ⟨j5' - 1, by omega⟩
              have e9 : (j5' : Int) - 1 = (z : Int) := by omega
              have HZ := Lib.hid hz
              clear hz
              go_wp2
              go_roundw
              case rel => exact ⟨z, by have := HZ.out; omega, by first | rfl | go_num, Lib.hid (pt_down pt.out hij HZ.out (by show ((fun v x => ltI x v)) d0[a]! d0[j5']! = false; rw [← HX.out, ← HV.out]; simp only [HLT.out]; try rfl)), ar3, gg3⟩
              case measure => (have := HZ.out; simp [intOf]; omega)
            · have hless := less_any x v
              rw [hl] at hless
              have HLT := Lib.hid hl
              clear hl
              go_upto_region 5 with fail
              refine over_region (W := Wd) (by kernel_rfl) (by kernel_rfl) (by repeat (first | exact Below.refl _ _ | refine bl_drewN ?_ _ | refine bl_drew ?_ | refine bl_alloc ?_ _)) ?_
              repeat (go_big_quiet_step (exact over_same (hless _)))
              refine wpQuiet_nil ?_
              intro _ hx_
              obtain ⟨x_, hx_⟩ := hx_
              subst hx_
              obtain ⟨w3, hb3⟩ := x_
              dsimp only
              have ar3 := Lib.hid (ar.out.below hb3)
              have gg3 := Lib.hid (gr_bl gg.out hb3)
              clear hb3 o0 o1 a0 a1 hless
              go_wp2
              go_meet
              case rel => exact ⟨j5', mono, rfl, pt, ar3, gg3, Lib.hid (fun _ => by show ((fun v x => ltI x v)) d0[a]! d0[j5']! = true; rw [← HX.out, ← HV.out]; simp only [HLT.out]; try rfl)⟩
          · have k1 : ¬ (i5' : Int) ≤ (j5' : Int) := by omega
            have k2 : decide ((i5' : Int) ≤ (j5' : Int)) = false := decide_eq_false k1
            go_upto_region 5 with fail
            refine over_region (W := Wd) (by kernel_rfl) (by kernel_rfl) (by repeat (first | exact Below.refl _ _ | refine bl_drewN ?_ _ | refine bl_drew ?_ | refine bl_alloc ?_ _)) ?_
            repeat (go_big_quiet_step (fail))
            refine wpQuiet_nil ?_
            intro _ hx_
            obtain ⟨x_, hx_⟩ := hx_
            subst hx_
            obtain ⟨w3, hb3⟩ := x_
            dsimp only
            have ar3 := Lib.hid (ar.out.below hb3)
            have gg3 := Lib.hid (gr_bl gg.out hb3)
            clear hb3
            go_wp2
            go_meet
            case rel => exact ⟨j5', mono, rfl, pt, ar3, gg3, Lib.hid (fun h => absurd h hij)⟩
      case rest =>
        obtain ⟨j5', mo_j5, rfl, pt6, ar6, gg6, hd6⟩ := hcut
        obtain ⟨W6, hw_⟩ : ∃ x : World, x = wc := ⟨_, rfl⟩
        subst hw_
        clear e1 e2
        by_cases hij2 : i5' ≤ j5'
        · skip
          have k1 : ¬ (j5' : Int) < (i5' : Int) := by omega
          have k2 : decide ((j5' : Int) < (i5' : Int)) = false := decide_eq_false k1
          have k3 : (i5' : Int) ≤ (j5' : Int) := by omega
          obtain ⟨zz, hzz⟩ : ∃ zz, zz + 1 = j5' := ⟨j5' - 1, by have := pt6.out.i1; omega⟩
          have hps := pt_swap pt6.out HBD.out hij2 hzz (hu5.out (by omega)) (hd6.out hij2)
          obtain ⟨hltij, hps⟩ := hps
          have PS := Lib.hid hps
          have i1 := pt6.out.i1
          have jb := pt6.out.jb
          have hsz2 : d0.size = n := by rw [pt6.out.p.1]; exact HN.out.symm
          have q0 : (0 : Int) ≤ (i5' : Int) := by omega
          have q1 : (i5' : Int) < (n : Int) := by omega
          have q2 : (0 : Int) ≤ (j5' : Int) := by omega
          have q3 : (j5' : Int) < (n : Int) := by omega
          obtain ⟨a0, f0⟩ := ar6.out.at_ i5' (by omega)
          obtain ⟨a1, f1⟩ := ar6.out.at_ j5' (by omega)
          obtain ⟨x, hx⟩ : ∃ x, x = d0[i5']! := ⟨_, rfl⟩
          obtain ⟨y, hy⟩ : ∃ y, y = d0[j5']! := ⟨_, rfl⟩
          rw [← hx] at a0
          rw [← hy] at a1
          have hsw := ar6.out.swp i5' j5'
          rw [← hx, ← hy] at hsw
          have AS := Lib.hid hsw.drew
          have GS := Lib.hid (gr_then gg6.out (gr_drew (grown_set2 W6 c i5' j5' (.int .u64 (y.toNat : Int)) (.int .u64 (x.toNat : Int)))))
          have ne1 : i5' ≠ j5' := by omega
          have ne2 : j5' ≠ i5' := by omega
          have e9 : (j5' : Int) - 1 = (zz : Int) := by omega
          have HZZ := Lib.hid hzz
          clear hsw hx hy hps hzz hsz2
          go_upto_region 10 with fail
          go_region
          clear a0 a1 f0 f1
          obtain ⟨is, his⟩ : ∃ is, is = i5' + 1 := ⟨_, rfl⟩
          have e8 : (i5' : Int) + 1 = (is : Int) := by omega
          obtain ⟨D2, hD2⟩ : ∃ D2, D2 = Sort.swp d0 i5' j5' := ⟨_, rfl⟩
          rw [← hD2, ← his] at PS
          rw [← hD2] at AS
          clear his hD2
          go_wp2_with fail
          clear e8 e9
          go_loopw [10, 11] (fun u v w' => ∃ (i j : Nat) (d1 : Array It), u = .int .i64 (i : Int) ∧ v = .int .i64 (j : Int) ∧ Hid (Pt (fun v x => ltI x v) a b i j d d1) ∧ Hid (Arr w' B c cap d1) ∧ Hid (w.grownBy w' (some c))) (fun u v _ => (intOf v + 1 - intOf u).toNat)
          case atStart => exact ⟨is, zz, D2, rfl, rfl, PS, AS, GS⟩
          case round =>
            clear q0 q1 q2 q3
            obtain ⟨W0, hw_⟩ : ∃ x : World, x = wr := ⟨_, rfl⟩
            subst hw_
            obtain ⟨i, j, d1, rfl, rfl, pt0, ar0, gg0⟩ := hrel
            go_upto_block 6 with fail
            go_cut [10] from 99 to 114 (fun u wx => ∃ i' : Nat, i ≤ i' ∧ u = .int .i64 (i' : Int) ∧ Hid (Pt (fun v x => ltI x v) a b i' j d d1) ∧ Hid (Arr wx B c cap d1) ∧ Hid (w.grownBy wx (some c)) ∧ Hid (i' ≤ j → ((fun v x => ltI x v)) d1[a]! d1[i']! = false))
            case first =>
              go_wp2_with fail
              go_loopw [10] (fun u w' => ∃ i' : Nat, i ≤ i' ∧ u = .int .i64 (i' : Int) ∧ Hid (Pt (fun v x => ltI x v) a b i' j d d1) ∧ Hid (Arr w' B c cap d1) ∧ Hid (w.grownBy w' (some c))) (fun u _ => j + 1 - (intOf u).toNat)
              case atStart => exact ⟨i, Nat.le_refl _, rfl, pt0, ar0, gg0⟩
              case round =>
                obtain ⟨Wa, hw_⟩ : ∃ x : World, x = wr := ⟨_, rfl⟩
                subst hw_
                obtain ⟨i', mono, rfl, pt, ar, gg⟩ := hrel
                have i1 := pt.out.i1
                have ij := pt.out.ij
                have jb := pt.out.jb
                by_cases hij : i' ≤ j
                · have k1 : (i' : Int) ≤ (j : Int) := by omega
                  have k2 : decide ((i' : Int) ≤ (j : Int)) = true := decide_eq_true k1
                  have q0 : (0 : Int) ≤ (i' : Int) := by omega
                  have q1 : (i' : Int) < (n : Int) := by omega
                  have q2 : (0 : Int) ≤ (a : Int) := by omega
                  have q3 : (a : Int) < (n : Int) := by omega
                  obtain ⟨a0, _⟩ := ar.out.at_ i' (by rw [pt.out.p.1, ← HN.out]; omega)
                  obtain ⟨a1, _⟩ := ar.out.at_ a (by rw [pt.out.p.1, ← HN.out]; omega)
                  obtain ⟨x, hx⟩ : ∃ x, x = d1[i']! := ⟨_, rfl⟩
                  obtain ⟨v, hv⟩ : ∃ v, v = d1[a]! := ⟨_, rfl⟩
                  rw [← hx] at a0
                  rw [← hv] at a1
                  have HX := Lib.hid hx
                  have HV := Lib.hid hv
                  clear hx hv
                  have o0 := over_cell a0
                  have o1 := over_cell a1
                  rcases hl : ltI x v with _ | _
                  · have hless := less_any x v
                    rw [hl] at hless
                    have HLT := Lib.hid hl
                    clear hl
                    go_upto_region 13 with fail
                    refine over_region (W := Wa) (by kernel_rfl) (by kernel_rfl) (by repeat (first | exact Below.refl _ _ | refine bl_drewN ?_ _ | refine bl_drew ?_ | refine bl_alloc ?_ _)) ?_
                    repeat (go_big_quiet_step (exact over_same (hless _)))
                    refine wpQuiet_nil ?_
                    intro _ hx_
                    obtain ⟨x_, hx_⟩ := hx_
                    subst hx_
                    obtain ⟨w3, hb3⟩ := x_
                    dsimp only
                    have ar3 := Lib.hid (ar.out.below hb3)
                    have gg3 := Lib.hid (gr_bl gg.out hb3)
                    clear hb3 o0 o1 a0 a1 hless
                    go_wp2
                    go_meet
                    case rel => exact ⟨i', mono, rfl, pt, ar3, gg3, Lib.hid (fun _ => by show ((fun v x => ltI x v)) d1[a]! d1[i']! = false; rw [← HX.out, ← HV.out]; simp only [HLT.out]; try rfl)⟩
                  · have hless := less_any x v
                    rw [hl] at hless
                    have HLT := Lib.hid hl
                    clear hl
                    go_upto_region 13 with fail
                    refine over_region (W := Wa) (by kernel_rfl) (by kernel_rfl) (by repeat (first | exact Below.refl _ _ | refine bl_drewN ?_ _ | refine bl_drew ?_ | refine bl_alloc ?_ _)) ?_
                    repeat (go_big_quiet_step (exact over_same (hless _)))
                    refine wpQuiet_nil ?_
                    intro _ hx_
                    obtain ⟨x_, hx_⟩ := hx_
                    subst hx_
                    obtain ⟨w3, hb3⟩ := x_
                    dsimp only
                    have ar3 := Lib.hid (ar.out.below hb3)
                    have gg3 := Lib.hid (gr_bl gg.out hb3)
                    clear hb3 o0 o1 a0 a1 hless
                    go_wp2
                    go_roundw
                    case rel => exact ⟨i' + 1, by omega, by go_num, Lib.hid (pt_up pt.out hij (by show ((fun v x => ltI x v)) d1[a]! d1[i']! = true; rw [← HX.out, ← HV.out]; simp only [HLT.out]; try rfl)), ar3, gg3⟩
                    case measure => simp [intOf]; omega
                · have k1 : ¬ (i' : Int) ≤ (j : Int) := by omega
                  have k2 : decide ((i' : Int) ≤ (j : Int)) = false := decide_eq_false k1
                  go_upto_region 13 with fail
                  refine over_region (W := Wa) (by kernel_rfl) (by kernel_rfl) (by repeat (first | exact Below.refl _ _ | refine bl_drewN ?_ _ | refine bl_drew ?_ | refine bl_alloc ?_ _)) ?_
                  repeat (go_big_quiet_step (fail))
                  refine wpQuiet_nil ?_
                  intro _ hx_
                  obtain ⟨x_, hx_⟩ := hx_
                  subst hx_
                  obtain ⟨w3, hb3⟩ := x_
                  dsimp only
                  have ar3 := Lib.hid (ar.out.below hb3)
                  have gg3 := Lib.hid (gr_bl gg.out hb3)
                  clear hb3
                  go_wp2
                  go_meet
                  case rel => exact ⟨i', mono, rfl, pt, ar3, gg3, Lib.hid (fun h => absurd h hij)⟩
            case rest =>
              obtain ⟨i', mo_i, rfl, pt1, ar1, gg1, hu⟩ := hcut
              obtain ⟨W1, hw_⟩ : ∃ x : World, x = wc := ⟨_, rfl⟩
              subst hw_
              go_upto_block 8 with fail
              go_cut [11] from 115 to 131 (fun u wx => ∃ j' : Nat, j' ≤ j ∧ u = .int .i64 (j' : Int) ∧ Hid (Pt (fun v x => ltI x v) a b i' j' d d1) ∧ Hid (Arr wx B c cap d1) ∧ Hid (w.grownBy wx (some c)) ∧ Hid (i' ≤ j' → ((fun v x => ltI x v)) d1[a]! d1[j']! = true))
              case first =>
                go_wp2_with fail
                go_loopw [11] (fun u w' => ∃ j' : Nat, j' ≤ j ∧ u = .int .i64 (j' : Int) ∧ Hid (Pt (fun v x => ltI x v) a b i' j' d d1) ∧ Hid (Arr w' B c cap d1) ∧ Hid (w.grownBy w' (some c))) (fun u _ => (intOf u).toNat)
                case atStart => exact ⟨j, Nat.le_refl _, rfl, pt1, ar1, gg1⟩
                case round =>
                  obtain ⟨Wb, hw_⟩ : ∃ x : World, x = wr := ⟨_, rfl⟩
                  subst hw_
                  obtain ⟨j', mono, rfl, pt, ar, gg⟩ := hrel
                  have i1 := pt.out.i1
                  have ij := pt.out.ij
                  have jb := pt.out.jb
                  by_cases hij : i' ≤ j'
                  · have k1 : (i' : Int) ≤ (j' : Int) := by omega
                    have k2 : decide ((i' : Int) ≤ (j' : Int)) = true := decide_eq_true k1
                    have q0 : (0 : Int) ≤ (j' : Int) := by omega
                    have q1 : (j' : Int) < (n : Int) := by omega
                    have q2 : (0 : Int) ≤ (a : Int) := by omega
                    have q3 : (a : Int) < (n : Int) := by omega
                    obtain ⟨a0, _⟩ := ar.out.at_ j' (by rw [pt.out.p.1, ← HN.out]; omega)
                    obtain ⟨a1, _⟩ := ar.out.at_ a (by rw [pt.out.p.1, ← HN.out]; omega)
                    obtain ⟨x, hx⟩ : ∃ x, x = d1[j']! := ⟨_, rfl⟩
                    obtain ⟨v, hv⟩ : ∃ v, v = d1[a]! := ⟨_, rfl⟩
                    rw [← hx] at a0
                    rw [← hv] at a1
                    have HX := Lib.hid hx
                    have HV := Lib.hid hv
                    clear hx hv
                    have o0 := over_cell a0
                    have o1 := over_cell a1
                    rcases hl : ltI x v with _ | _
                    · have hless := less_any x v
                      rw [hl] at hless
                      have HLT := Lib.hid hl
                      clear hl
                      go_upto_region 15 with fail
                      refine over_region (W := Wb) (by kernel_rfl) (by kernel_rfl) (by repeat (first | exact Below.refl _ _ | refine bl_drewN ?_ _ | refine bl_drew ?_ | refine bl_alloc ?_ _)) ?_
                      repeat (go_big_quiet_step (exact over_same (hless _)))
                      refine wpQuiet_nil ?_
                      intro _ hx_
                      obtain ⟨x_, hx_⟩ := hx_
                      subst hx_
                      obtain ⟨w3, hb3⟩ := x_
                      dsimp only
                      have ar3 := Lib.hid (ar.out.below hb3)
                      have gg3 := Lib.hid (gr_bl gg.out hb3)
                      clear hb3 o0 o1 a0 a1 hless
                      obtain ⟨z, hz⟩ : ∃ z, z + 1 = j' := ⟨j' - 1, by omega⟩
                      have e9 : (j' : Int) - 1 = (z : Int) := by omega
                      have HZ := Lib.hid hz
                      clear hz
                      go_wp2
                      go_roundw
                      case rel => exact ⟨z, by have := HZ.out; omega, by first | rfl | go_num, Lib.hid (pt_down pt.out hij HZ.out (by show ((fun v x => ltI x v)) d1[a]! d1[j']! = false; rw [← HX.out, ← HV.out]; simp only [HLT.out]; try rfl)), ar3, gg3⟩
                      case measure => (have := HZ.out; simp [intOf]; omega)
                    · have hless := less_any x v
                      rw [hl] at hless
                      have HLT := Lib.hid hl
                      clear hl
                      go_upto_region 15 with fail
                      refine over_region (W := Wb) (by kernel_rfl) (by kernel_rfl) (by repeat (first | exact Below.refl _ _ | refine bl_drewN ?_ _ | refine bl_drew ?_ | refine bl_alloc ?_ _)) ?_
                      repeat (go_big_quiet_step (exact over_same (hless _)))
                      refine wpQuiet_nil ?_
                      intro _ hx_
                      obtain ⟨x_, hx_⟩ := hx_
                      subst hx_
                      obtain ⟨w3, hb3⟩ := x_
                      dsimp only
                      have ar3 := Lib.hid (ar.out.below hb3)
                      have gg3 := Lib.hid (gr_bl gg.out hb3)
                      clear hb3 o0 o1 a0 a1 hless
                      go_wp2
                      go_meet
                      case rel => exact ⟨j', mono, rfl, pt, ar3, gg3, Lib.hid (fun _ => by show ((fun v x => ltI x v)) d1[a]! d1[j']! = true; rw [← HX.out, ← HV.out]; simp only [HLT.out]; try rfl)⟩
                  · have k1 : ¬ (i' : Int) ≤ (j' : Int) := by omega
                    have k2 : decide ((i' : Int) ≤ (j' : Int)) = false := decide_eq_false k1
                    go_upto_region 15 with fail
                    refine over_region (W := Wb) (by kernel_rfl) (by kernel_rfl) (by repeat (first | exact Below.refl _ _ | refine bl_drewN ?_ _ | refine bl_drew ?_ | refine bl_alloc ?_ _)) ?_
                    repeat (go_big_quiet_step (fail))
                    refine wpQuiet_nil ?_
                    intro _ hx_
                    obtain ⟨x_, hx_⟩ := hx_
                    subst hx_
                    obtain ⟨w3, hb3⟩ := x_
                    dsimp only
                    have ar3 := Lib.hid (ar.out.below hb3)
                    have gg3 := Lib.hid (gr_bl gg.out hb3)
                    clear hb3
                    go_wp2
                    go_meet
                    case rel => exact ⟨j', mono, rfl, pt, ar3, gg3, Lib.hid (fun h => absurd h hij)⟩
              case rest =>
                obtain ⟨j', mo_j, rfl, pt2, ar2, gg2, hd⟩ := hcut
                obtain ⟨W2, hw_⟩ : ∃ x : World, x = wc := ⟨_, rfl⟩
                subst hw_
                by_cases hij2 : i' ≤ j'
                · skip
                  have k1 : ¬ (j' : Int) < (i' : Int) := by omega
                  have k2 : decide ((j' : Int) < (i' : Int)) = false := decide_eq_false k1
                  have k3 : (i' : Int) ≤ (j' : Int) := by omega
                  obtain ⟨zz, hzz⟩ : ∃ zz, zz + 1 = j' := ⟨j' - 1, by have := pt2.out.i1; omega⟩
                  have hps := pt_swap pt2.out HBD.out hij2 hzz (hu.out (by omega)) (hd.out hij2)
                  obtain ⟨hltij, hps⟩ := hps
                  have PS := Lib.hid hps
                  have i1 := pt2.out.i1
                  have jb := pt2.out.jb
                  have hsz2 : d1.size = n := by rw [pt2.out.p.1]; exact HN.out.symm
                  have q0 : (0 : Int) ≤ (i' : Int) := by omega
                  have q1 : (i' : Int) < (n : Int) := by omega
                  have q2 : (0 : Int) ≤ (j' : Int) := by omega
                  have q3 : (j' : Int) < (n : Int) := by omega
                  obtain ⟨a0, f0⟩ := ar2.out.at_ i' (by omega)
                  obtain ⟨a1, f1⟩ := ar2.out.at_ j' (by omega)
                  obtain ⟨x, hx⟩ : ∃ x, x = d1[i']! := ⟨_, rfl⟩
                  obtain ⟨y, hy⟩ : ∃ y, y = d1[j']! := ⟨_, rfl⟩
                  rw [← hx] at a0
                  rw [← hy] at a1
                  have hsw := ar2.out.swp i' j'
                  rw [← hx, ← hy] at hsw
                  have AS := Lib.hid hsw.drew
                  have GS := Lib.hid (gr_then gg2.out (gr_drew (grown_set2 W2 c i' j' (.int .u64 (y.toNat : Int)) (.int .u64 (x.toNat : Int)))))
                  have ne1 : i' ≠ j' := by omega
                  have ne2 : j' ≠ i' := by omega
                  have e9 : (j' : Int) - 1 = (zz : Int) := by omega
                  have HZZ := Lib.hid hzz
                  clear hsw hx hy hps hzz hsz2
                  go_upto_region 18 with fail
                  go_region
                  clear a0 a1 f0 f1
                  go_wp2
                  go_roundw
                  case rel => exact ⟨i' + 1, zz, _, by go_num, by first | rfl | go_num, PS, AS, GS⟩
                  case measure => (have := HZZ.out; have := pt2.out.ij; have := pt0.out.ij; simp [intOf]; omega)
                · have k1 : (j' : Int) < (i' : Int) := by omega
                  have k2 : decide ((j' : Int) < (i' : Int)) = true := decide_eq_true k1
                  have i1 := pt2.out.i1
                  have ij := pt2.out.ij
                  have jb := pt2.out.jb
                  have hsz2 : d1.size = n := by rw [pt2.out.p.1]; exact HN.out.symm
                  have q0 : (0 : Int) ≤ (j' : Int) := by omega
                  have q1 : (j' : Int) < (n : Int) := by omega
                  have q2 : (0 : Int) ≤ (a : Int) := by omega
                  have q3 : (a : Int) < (n : Int) := by omega
                  have FIN := Lib.hid (pt_parted pt2.out HBD.out hij2)
                  obtain ⟨a0, f0⟩ := ar2.out.at_ j' (by omega)
                  obtain ⟨a1, f1⟩ := ar2.out.at_ a (by omega)
                  obtain ⟨x, hx⟩ : ∃ x, x = d1[j']! := ⟨_, rfl⟩
                  obtain ⟨y, hy⟩ : ∃ y, y = d1[a]! := ⟨_, rfl⟩
                  rw [← hx] at a0
                  rw [← hy] at a1
                  have hsw := ar2.out.swp j' a
                  rw [← hx, ← hy] at hsw
                  have AS := Lib.hid hsw.drew
                  have GS := Lib.hid (gr_then gg2.out (gr_drew (grown_set2 W2 c j' a (.int .u64 (y.toNat : Int)) (.int .u64 (x.toNat : Int)))))
                  clear hsw
                  clear hsz2
                  by_cases hja : j' = a
                  · have hxy : x = y := by rw [hx, hy, hja]
                    have AS2 := Lib.hid (show Arr ((W2.setCell ⟨c, a, none⟩ (.int .u64 (y.toNat : Int))).setCell ⟨c, a, none⟩ (.int .u64 (y.toNat : Int))).drew B c cap (Sort.swp d1 j' a) from by
                      have h := AS.out
                      rw [hja, hxy] at h
                      rw [hja]
                      exact h)
                    have GS2 := Lib.hid (show w.grownBy ((W2.setCell ⟨c, a, none⟩ (.int .u64 (y.toNat : Int))).setCell ⟨c, a, none⟩ (.int .u64 (y.toNat : Int))).drew (some c) from gr_then gg2.out (gr_drew (grown_set2 W2 c a a _ _)))
                    have HJA := Lib.hid hja
                    clear a0 f0 hx hy hxy AS GS
                    rw [hja]
                    clear hja q0 q1
                    go_upto_region 21 with fail
                    go_region
                    clear a1 f1
                    go_wp2
                    go_ret2
                    exact ⟨partRes_mk a false rfl AS2.out (by have h := FIN.out; have e := HJA.out; rw [e] at h; rw [e]; exact h), GS2.out⟩
                  · have ne1 : j' ≠ a := hja
                    have ne2 : a ≠ j' := fun e => hja e.symm
                    clear hja hx hy
                    go_upto_region 21 with fail
                    go_region
                    clear a0 f0 a1 f1
                    go_wp2
                    go_ret2
                    exact ⟨partRes_mk j' false rfl AS.out FIN.out, GS.out⟩
        · have k1 : (j5' : Int) < (i5' : Int) := by omega
          have k2 : decide ((j5' : Int) < (i5' : Int)) = true := decide_eq_true k1
          have i1 := pt6.out.i1
          have ij := pt6.out.ij
          have jb := pt6.out.jb
          have hsz2 : d0.size = n := by rw [pt6.out.p.1]; exact HN.out.symm
          have q0 : (0 : Int) ≤ (j5' : Int) := by omega
          have q1 : (j5' : Int) < (n : Int) := by omega
          have q2 : (0 : Int) ≤ (a : Int) := by omega
          have q3 : (a : Int) < (n : Int) := by omega
          have FIN := Lib.hid (pt_parted pt6.out HBD.out hij2)
          obtain ⟨a0, f0⟩ := ar6.out.at_ j5' (by omega)
          obtain ⟨a1, f1⟩ := ar6.out.at_ a (by omega)
          obtain ⟨x, hx⟩ : ∃ x, x = d0[j5']! := ⟨_, rfl⟩
          obtain ⟨y, hy⟩ : ∃ y, y = d0[a]! := ⟨_, rfl⟩
          rw [← hx] at a0
          rw [← hy] at a1
          have hsw := ar6.out.swp j5' a
          rw [← hx, ← hy] at hsw
          have AS := Lib.hid hsw.drew
          have GS := Lib.hid (gr_then gg6.out (gr_drew (grown_set2 W6 c j5' a (.int .u64 (y.toNat : Int)) (.int .u64 (x.toNat : Int)))))
          clear hsw
          clear hsz2
          by_cases hja : j5' = a
          · have hxy : x = y := by rw [hx, hy, hja]
            have AS2 := Lib.hid (show Arr ((W6.setCell ⟨c, a, none⟩ (.int .u64 (y.toNat : Int))).setCell ⟨c, a, none⟩ (.int .u64 (y.toNat : Int))).drew B c cap (Sort.swp d0 j5' a) from by
              have h := AS.out
              rw [hja, hxy] at h
              rw [hja]
              exact h)
            have GS2 := Lib.hid (show w.grownBy ((W6.setCell ⟨c, a, none⟩ (.int .u64 (y.toNat : Int))).setCell ⟨c, a, none⟩ (.int .u64 (y.toNat : Int))).drew (some c) from gr_then gg6.out (gr_drew (grown_set2 W6 c a a _ _)))
            have HJA := Lib.hid hja
            clear a0 f0 hx hy hxy AS GS
            rw [hja]
            clear hja q0 q1
            go_upto_region 8 with fail
            go_region
            clear a1 f1
            go_wp2
            go_ret2
            exact ⟨partRes_mk a true rfl AS2.out (by have h := FIN.out; have e := HJA.out; rw [e] at h; rw [e]; exact h), GS2.out⟩
          · have ne1 : j5' ≠ a := hja
            have ne2 : a ≠ j5' := fun e => hja e.symm
            clear hja hx hy
            go_upto_region 8 with fail
            go_region
            clear a0 f0 a1 f1
            go_wp2
            go_ret2
            exact ⟨partRes_mk j5' true rfl AS.out FIN.out, GS.out⟩
end Go.Proofs.Ytpklkjekkbpeoaa
