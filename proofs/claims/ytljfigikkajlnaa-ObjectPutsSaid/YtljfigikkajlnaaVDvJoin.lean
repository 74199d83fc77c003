/- DERIVED. The program's Join. -/
import Derived.Test.YtljfigikkajlnaaVm9
import Derived.Test.YtljfigikkajlnaaVDvMax
import Derived.Test.YtljfigikkajlnaaVDvValid
import Derived.WalkMore
namespace Go.Proofs.Ytljfigikkajlnaa
open Go.RowKit
set_option linter.unusedVariables false
set_option linter.unusedSimpArgs false
theorem join_cases (a : List Dot) (l : List Sib) (b : List Dot) (m : List Sib) : (joinE a l b m = 0 ∧ joinA a l b m = vmax a b ∧ joinL a l b m = sjoin (cov a) (cov b) l m) ∨ (joinE a l b m ≠ 0 ∧ joinA a l b m = [] ∧ joinL a l b m = []) := by
  by_cases h : joinE a l b m = 0
  · exact .inl ⟨h, by unfold joinA; rw [if_pos h], by unfold joinL; rw [if_pos h]⟩
  · exact .inr ⟨h, by unfold joinA; rw [if_neg h], by unfold joinL; rw [if_neg h]⟩
theorem join_bad {a : List Dot} {l : List Sib} {b : List Dot} {m : List Sib} (h : staB a l = false ∨ staB b m = false) : joinE a l b m = 110 ∧ joinA a l b m = [] ∧ joinL a l b m = [] := by
  have : joinE a l b m = 110 := by unfold joinE; rcases h with h | h <;> simp [h]
  refine ⟨this, ?_, ?_⟩ <;> simp [joinA, joinL, this]
theorem join_big {a : List Dot} {l : List Sib} {b : List Dot} {m : List Sib} (h1 : staB a l = true) (h2 : staB b m = true) (h : 64 < (vmax a b).length ∨ 64 < (sjoin (cov a) (cov b) l m).length) : joinE a l b m = 82 ∧ joinA a l b m = [] ∧ joinL a l b m = [] := by
  have : joinE a l b m = 82 := by
    unfold joinE
    rw [h1, h2]
    simp only [Bool.and_self, if_true]
    rcases h with h | h
    · rw [if_neg (by omega)]
    · split
      · rw [if_neg (by omega)]
      · rfl
  refine ⟨this, ?_, ?_⟩ <;> simp [joinA, joinL, this]
theorem join_ok {a : List Dot} {l : List Sib} {b : List Dot} {m : List Sib} (h1 : staB a l = true) (h2 : staB b m = true) (h3 : (vmax a b).length ≤ 64) (h4 : (sjoin (cov a) (cov b) l m).length ≤ 64) : joinE a l b m = 0 ∧ joinA a l b m = vmax a b ∧ joinL a l b m = sjoin (cov a) (cov b) l m := by
  have : joinE a l b m = 0 := by
    unfold joinE
    rw [h1, h2]
    simp only [Bool.and_self, if_true]
    rw [if_pos h3, if_pos h4]
  refine ⟨this, ?_, ?_⟩ <;> simp [joinA, joinL, this]
theorem max_err {a b : List Dot} (h1 : vecB a = true) (h2 : vecB b = true) : ((vmax a b).length ≤ 64 ∧ maxE a b = 0 ∧ maxL a b = vmax a b) ∨ (64 < (vmax a b).length ∧ maxE a b = 82) := by
  have : maxE a b = if (vmax a b).length ≤ 64 then 0 else 82 := by simp [maxE, h1, h2]
  by_cases h : (vmax a b).length ≤ 64
  · exact .inl ⟨h, by rw [this, if_pos h], by rw [maxL, this, if_pos h]; rfl⟩
  · exact .inr ⟨by omega, by rw [this, if_neg h]⟩
theorem lesser_x (x y : Sib) (w : World) : Calls Try.prog 77 #[.agg #[.int .u32 x.d.a, .int .u64 x.d.n, .bool x.gone, .string x.v], .agg #[.int .u32 y.d.a, .int .u64 y.d.n, .bool y.gone, .string y.v]] w
    fun e w' => e = .returned (.agg #[.int .u32 (lesS x y).d.a, .int .u64 (lesS x y).d.n, .bool (lesS x y).gone, .string (lesS x y).v]) ∧ Below w.heap.size w w' := lesser_any x y w
theorem below_then {W w w' : World} (h : Below W.heap.size W w) (hb : Below w.heap.size w w') : Below W.heap.size W w' := bl_then h hb
theorem ret_st {u v : Value} {a b : Int} (h : a = b) : Ending.returned (.tuple #[.agg #[u, v], .int .i64 a]) = .returned (.tuple #[.agg #[u, v], .int .i64 b]) := by rw [h]
set_option maxRecDepth 100000 in
set_option maxHeartbeats 12800000 in
theorem join_any (A B C D : Option Addr) (c1 c2 c3 c4 : Nat) (a b : List Dot) (l m : List Sib) (w : World) (ha : GR.Rd dotK w A a) (hl : GR.Rd sibK w B l) (hb : GR.Rd dotK w C b) (hm : GR.Rd sibK w D m) (hca : a.length ≤ c1) (hcb : b.length ≤ c3)
    (na : ∀ d ∈ a, 0 ≤ d.n) (nl : ∀ x ∈ l, 0 ≤ x.d.n) (nb : ∀ d ∈ b, 0 ≤ d.n) (nm : ∀ x ∈ m, 0 ≤ x.d.n) :
    Calls Try.prog 35 #[.agg #[.slice A a.length c1, .slice B l.length c2], .agg #[.slice C b.length c3, .slice D m.length c4]] w fun e w' => ∃ v1 v2, e = .returned (.tuple #[.agg #[v1, v2], .int .i64 (joinE a l b m)]) ∧ GR.Own dotK w' w.heap.size v1 (joinA a l b m) ∧ GR.Own sibK w' w.heap.size v2 (joinL a l b m) ∧ Below w.heap.size w w' := by
  obtain ⟨i0, hi0, hz0, hz1, hz2⟩ := info_parts sib_info
  have hml : l.length * 40 ≤ 140737488355328 := hl.max
  have hmm : m.length * 40 ≤ 140737488355328 := hm.max
  have HA := Lib.hid ha
  have HL := Lib.hid hl
  have HB := Lib.hid hb
  have HM := Lib.hid hm
  have NA := Lib.hid na
  have NL := Lib.hid nl
  have NB := Lib.hid nb
  have NM := Lib.hid nm
  clear ha hl hb hm na nl nb nm
  go_enter Try.func35, Try.ntmps35
  go_wp2_with fail
  go_step3
  obtain ⟨W1, hW1⟩ : ∃ W1 : World, W1 = ((w.alloc (.cells #[.slice A a.length c1, .slice B l.length c2] 25)).alloc (.cells #[.slice C b.length c3, .slice D m.length c4] 25)).alloc (.cells #[.slice none 0 0, .slice none 0 0] 25) := ⟨_, rfl⟩
  rw [← hW1]
  have LW : Hid (Below w.heap.size w W1) := Lib.hid (by rw [hW1]; exact (by repeat (first | exact Below.refl _ _ | refine bl_drewN ?_ _ | refine bl_drew ?_ | refine bl_alloc ?_ _)))
  have XA : Hid (GR.Blk W1 w.heap.size 25 #[.slice A a.length c1, .slice B l.length c2]) := Lib.hid (by rw [hW1]; exact ((GR.Blk.new _ _ _).alloc _).alloc _)
  have XB : Hid (GR.Blk W1 (w.heap.size + 1) 25 #[.slice C b.length c3, .slice D m.length c4]) := Lib.hid (by rw [hW1]; exact (new_at _ _ _ (by simp)).alloc _)
  have XR : Hid (GR.Blk W1 (w.heap.size + 1 + 1) 25 #[.slice none 0 0, .slice none 0 0]) := Lib.hid (by rw [hW1]; exact new_at _ _ _ (by simp))
  clear hW1
  have L1 := Lib.hid (Below.refl W1.heap.size W1)
  have s0 : W1.cell? ⟨w.heap.size, 0, none⟩ = some (.slice A a.length c1) := (XA.out.below L1.out XA.out.lt).cell 0
  have s1 : W1.cell? ⟨w.heap.size, 1, none⟩ = some (.slice B l.length c2) := (XA.out.below L1.out XA.out.lt).cell 1
  have t0 : W1.cell? ⟨w.heap.size + 1, 0, none⟩ = some (.slice C b.length c3) := (XB.out.below L1.out XB.out.lt).cell 0
  have t1 : W1.cell? ⟨w.heap.size + 1, 1, none⟩ = some (.slice D m.length c4) := (XB.out.below L1.out XB.out.lt).cell 1
  go_wp2_with fail
  clear s0 s1 t0 t1 L1
  by_cases h1 : staB a l = true
  · refine (dvvValid_any _ _ _ _ a l _ (HA.out.below LW.out) (HL.out.below LW.out) NA.out NL.out).mono ?_
    rintro e w2 ⟨rfl, L2_⟩
    rw [h1]
    have L2 := Lib.hid L2_
    clear L2_
    have s0 : w2.cell? ⟨w.heap.size, 0, none⟩ = some (.slice A a.length c1) := (XA.out.below L2.out XA.out.lt).cell 0
    have s1 : w2.cell? ⟨w.heap.size, 1, none⟩ = some (.slice B l.length c2) := (XA.out.below L2.out XA.out.lt).cell 1
    have t0 : w2.cell? ⟨w.heap.size + 1, 0, none⟩ = some (.slice C b.length c3) := (XB.out.below L2.out XB.out.lt).cell 0
    have t1 : w2.cell? ⟨w.heap.size + 1, 1, none⟩ = some (.slice D m.length c4) := (XB.out.below L2.out XB.out.lt).cell 1
    go_wp2_with fail
    by_cases h2 : staB b m = true
    · refine (dvvValid_any _ _ _ _ b m _ (HB.out.below (bl_then LW.out L2.out)) (HM.out.below (bl_then LW.out L2.out)) NB.out NM.out).mono ?_
      rintro e w3 ⟨rfl, L3_⟩
      rw [h2]
      have L3 := Lib.hid (bl_then L2.out L3_)
      have H1 := Lib.hid h1
      have H2 := Lib.hid h2
      clear L3_ h1 h2 s0 s1 t0 t1 L2
      have s0 : w3.cell? ⟨w.heap.size, 0, none⟩ = some (.slice A a.length c1) := (XA.out.below L3.out XA.out.lt).cell 0
      have s1 : w3.cell? ⟨w.heap.size, 1, none⟩ = some (.slice B l.length c2) := (XA.out.below L3.out XA.out.lt).cell 1
      have t0 : w3.cell? ⟨w.heap.size + 1, 0, none⟩ = some (.slice C b.length c3) := (XB.out.below L3.out XB.out.lt).cell 0
      have t1 : w3.cell? ⟨w.heap.size + 1, 1, none⟩ = some (.slice D m.length c4) := (XB.out.below L3.out XB.out.lt).cell 1
      have HVA := Lib.hid (sta_ok H1.out)
      have HVB := Lib.hid (sta_ok H2.out)
      go_wp2_with fail
      refine (max_any _ _ _ _ a b _ (HA.out.below (bl_then LW.out L3.out)) (HB.out.below (bl_then LW.out L3.out)) hca hcb NA.out NB.out).mono ?_
      rintro e w4 ⟨vs, rfl, hos, L4_⟩
      have L4 := Lib.hid (bl_then L3.out L4_)
      have OS0 := Lib.hid (hos.base (show W1.heap.size ≤ w3.heap.size from L3.out.size))
      clear L4_ hos s0 s1 t0 t1 L3
      rcases max_err HVA.out.1 HVB.out.1 with ⟨hx64, hxe, hxl⟩ | ⟨hx64, hxe⟩
      · rw [hxe]
        have OS : Hid (GR.Own dotK w4 W1.heap.size vs (vmax a b)) := Lib.hid (by have := OS0.out; rwa [hxl] at this)
        have HX64 := Lib.hid hx64
        clear hxe hxl hx64 OS0
        have s0 : w4.cell? ⟨w.heap.size, 0, none⟩ = some (.slice A a.length c1) := (XA.out.below L4.out XA.out.lt).cell 0
        have s1 : w4.cell? ⟨w.heap.size, 1, none⟩ = some (.slice B l.length c2) := (XA.out.below L4.out XA.out.lt).cell 1
        have t0 : w4.cell? ⟨w.heap.size + 1, 0, none⟩ = some (.slice C b.length c3) := (XB.out.below L4.out XB.out.lt).cell 0
        have t1 : w4.cell? ⟨w.heap.size + 1, 1, none⟩ = some (.slice D m.length c4) := (XB.out.below L4.out XB.out.lt).cell 1
        go_wp2
        go_step3
        go_wp2
        clear s0 s1 t0 t1
        go_loopw [8, 9, 10] (fun v0 i0 k0 w' => ∃ (v : Value) (i k : Nat) (acc : List Sib), v = v0 ∧ i ≤ l.length ∧ k ≤ m.length ∧ i0 = .int .i64 i ∧ k0 = .int .i64 k ∧ Hid (acc ++ sjoin (cov a) (cov b) (l.drop i) (m.drop k) = sjoin (cov a) (cov b) l m) ∧ acc.length ≤ i + k ∧ Hid (GR.Own sibK w' W1.heap.size v acc) ∧ Hid (GR.Own dotK w' W1.heap.size vs (vmax a b)) ∧ Hid (Below W1.heap.size W1 w')) (fun _ i k _ => l.length - (intOf i).toNat + (m.length - (intOf k).toNat))
        case atStart => exact ⟨_, 0, 0, [], rfl, Nat.zero_le _, Nat.zero_le _, rfl, rfl, Lib.hid (by simp), by simp, Lib.hid (GR.Own.nil _ _ _), OS, L4⟩
        case round =>
          clear OS L4
          obtain ⟨v, i, k, acc, rfl, hil, hkm, rfl, rfl, hD, hal, ho, OS, L5⟩ := hrel
          have hb0 := Lib.hid (bl_then LW.out L5.out)
          have hwW : w.heap.size ≤ wr.heap.size := hb0.out.size
          have HLL := Lib.hid (show (acc.length + 1) * 40 ≤ 140737488355328 by
            have h1 := HVA.out.2.1
            have h2 := HVB.out.2.1
            omega)
          have s0 : wr.cell? ⟨w.heap.size, 0, none⟩ = some (.slice A a.length c1) := (XA.out.below L5.out XA.out.lt).cell 0
          have s1 : wr.cell? ⟨w.heap.size, 1, none⟩ = some (.slice B l.length c2) := (XA.out.below L5.out XA.out.lt).cell 1
          have t0 : wr.cell? ⟨w.heap.size + 1, 0, none⟩ = some (.slice C b.length c3) := (XB.out.below L5.out XB.out.lt).cell 0
          have t1 : wr.cell? ⟨w.heap.size + 1, 1, none⟩ = some (.slice D m.length c4) := (XB.out.below L5.out XB.out.lt).cell 1
          by_cases hi : i < l.length
          · by_cases hk : k < m.length
            ·
              have ti1 : ((i : Int) == (l.length : Int)) = false := by simp; omega
              have ti2 : (i == l.length) = false := by simp; omega
              have ti3 : (0 : Int) ≤ (i : Int) := by omega
              have ti4 : (i : Int) < (l.length : Int) := by omega
              have tk1 : ((k : Int) == (m.length : Int)) = false := by simp; omega
              have tk2 : (k == m.length) = false := by simp; omega
              have tk3 : (0 : Int) ≤ (k : Int) := by omega
              have tk4 : (k : Int) < (m.length : Int) := by omega
              obtain ⟨xd, e_, _, x0, x1, x2, x3⟩ := sib_at (HL.out.below hb0.out) i hi
              subst e_
              have nx : 0 ≤ l[i].d.n := NL.out _ (List.getElem_mem hi)
              obtain ⟨yd, e_, _, y0, y1, y2, y3⟩ := sib_at (HM.out.below hb0.out) k hk
              subst e_
              have ny : 0 ≤ m[k].d.n := NM.out _ (List.getElem_mem hk)
              have ks0 := over_cell s0
              have ks1 := over_cell s1
              have kt0 := over_cell t0
              have kt1 := over_cell t1
              have kx0 := over_cell x0
              have kx1 := over_cell x1
              have kx2 := over_cell x2
              have kx3 := over_cell x3
              have ky0 := over_cell y0
              have ky1 := over_cell y1
              have ky2 := over_cell y2
              have ky3 := over_cell y3
              rcases ltD_tri l[i].d m[k].d with ⟨hc, _, _⟩ | hc | ⟨hc, _, _⟩
              · have HC := Lib.hid (cmpD_lt hc)
                have HSJ := Lib.hid (sj_left (ca := cov a) (cb := cov b) (m := m) (k := k) hi (.inr ⟨hk, hc⟩))
                clear hc
                go_wp2
                refine over_region (W := wr) (by kernel_rfl) (by kernel_rfl) (by repeat (first | exact Below.refl _ _ | refine bl_drewN ?_ _ | refine bl_drew ?_ | refine bl_alloc ?_ _)) ?_
                repeat (go_big_quiet_step ((go_at_call 75; exact over_of (order_is l[i].d m[k].d _ HC.out _))))
                refine wpQuiet_nil ?_
                intro _ hx_
                obtain ⟨x_, hx_⟩ := hx_
                subst hx_
                obtain ⟨w5, hb5⟩ := x_
                dsimp only
                replace ks0 := over_next ks0 w5 hb5
                replace ks1 := over_next ks1 w5 hb5
                replace kt0 := over_next kt0 w5 hb5
                replace kt1 := over_next kt1 w5 hb5
                replace kx0 := over_next kx0 w5 hb5
                replace kx1 := over_next kx1 w5 hb5
                replace kx2 := over_next kx2 w5 hb5
                replace kx3 := over_next kx3 w5 hb5
                replace ky0 := over_next ky0 w5 hb5
                replace ky1 := over_next ky1 w5 hb5
                replace ky2 := over_next ky2 w5 hb5
                replace ky3 := over_next ky3 w5 hb5
                have zs0 := over_at ks0 w5 (Below.refl _ _)
                have zs1 := over_at ks1 w5 (Below.refl _ _)
                have zt0 := over_at kt0 w5 (Below.refl _ _)
                have zt1 := over_at kt1 w5 (Below.refl _ _)
                have L6 := Lib.hid (below_then L5.out hb5)
                have O6 := Lib.hid (ho.out.below hb5)
                have OS6 := Lib.hid (OS.out.below hb5)
                clear hb5
                clear s0 s1 t0 t1 x0 x1 x2 x3 y0 y1 y2 y3
                have HBW := Lib.hid (bl_then LW.out L6.out)
                cases hcv : cov b l[i].d with
                | true =>
                  have HCV := Lib.hid hcv
                  have HDD := Lib.hid (show acc ++ sjoin (cov a) (cov b) (l.drop (i + 1)) (m.drop k) = sjoin (cov a) (cov b) l m by
                    rw [← hD.out, HSJ.out, hcv]; simp)
                  clear hcv
                  go_wp2
                  refine over_region (W := w5) (by kernel_rfl) (by kernel_rfl) (by repeat (first | exact Below.refl _ _ | refine bl_drewN ?_ _ | refine bl_drew ?_ | refine bl_alloc ?_ _)) ?_
                  repeat (go_big_quiet_step ((go_at_call 76; exact over_of (covers_is _ c3 b l[i].d _ HCV.out _ ((HB.out.below HBW.out).below (Over.h _)) NB.out nx))))
                  refine wpQuiet_nil ?_
                  intro _ hx_
                  obtain ⟨x_, hx_⟩ := hx_
                  subst hx_
                  obtain ⟨w7, hb7⟩ := x_
                  dsimp only
                  have L7 := Lib.hid (below_then L6.out hb7)
                  have O7 := Lib.hid (O6.out.below hb7)
                  have OS7 := Lib.hid (OS6.out.below hb7)
                  clear hb7
                  go_wp2
                  go_roundw
                  case rel => exact ⟨_, i + 1, k, acc, rfl, by omega, by omega, by go_num, rfl, Lib.hid HDD.out, by first | omega | (simp; omega), O7, OS7, L7⟩
                  case measure => simp [intOf]; omega
                | false =>
                  have HCV := Lib.hid hcv
                  have HDD := Lib.hid (show (acc ++ [l[i]]) ++ sjoin (cov a) (cov b) (l.drop (i + 1)) (m.drop k) = sjoin (cov a) (cov b) l m by
                    rw [← hD.out, HSJ.out, hcv]; simp)
                  clear hcv
                  go_wp2
                  refine over_region (W := w5) (by kernel_rfl) (by kernel_rfl) (by repeat (first | exact Below.refl _ _ | refine bl_drewN ?_ _ | refine bl_drew ?_ | refine bl_alloc ?_ _)) ?_
                  repeat (go_big_quiet_step ((go_at_call 76; exact over_of (covers_is _ c3 b l[i].d _ HCV.out _ ((HB.out.below HBW.out).below (Over.h _)) NB.out nx))))
                  refine wpQuiet_nil ?_
                  intro _ hx_
                  obtain ⟨x_, hx_⟩ := hx_
                  subst hx_
                  obtain ⟨w7, hb7⟩ := x_
                  dsimp only
                  have qs0 := over_at ks0 w7 hb7
                  have qs1 := over_at ks1 w7 hb7
                  have qt0 := over_at kt0 w7 hb7
                  have qt1 := over_at kt1 w7 hb7
                  have qx0 := over_at kx0 w7 hb7
                  have qx1 := over_at kx1 w7 hb7
                  have qx2 := over_at kx2 w7 hb7
                  have qx3 := over_at kx3 w7 hb7
                  have L7 := Lib.hid (below_then L6.out hb7)
                  have O7 := Lib.hid (O6.out.below hb7)
                  have OS7 := Lib.hid (OS6.out.below hb7)
                  clear hb7
                  have HW7 := Lib.hid (L7.out.size : W1.heap.size ≤ w7.heap.size)
                  go_wp2_with (at_builtin; refine GR.app_one (K := sibK) rfl (.tmp 102) (.tmp 108) _ rfl Try.underlying23 hi0 hz0 hz1 hz2 rfl W1.heap.size _ acc l[i] rfl O7.out rfl HLL.out HW7.out ?_; intro v9 w9 ho9 hg9 hat9; have O9 := Lib.hid ho9; have OS9 := Lib.hid (OS7.out.grown hg9 (own_apart OS7.out O7.out (by decide))); have L9 := Lib.hid (Below.grown L7.out hg9 HW7.out (fun b hb => (O7.out.lt b hb).1)); clear ho9 hg9 hat9)
                  go_roundw
                  case rel => exact ⟨_, i + 1, k, acc ++ [l[i]], rfl, by omega, by omega, by go_num, rfl, Lib.hid HDD.out, by first | omega | (simp; omega), O9, OS9, L9⟩
                  case measure => simp [intOf]; omega
              · have HC := Lib.hid (show cmpD l[i].d m[k].d = 0 by rw [hc]; exact cmpD_self _)
                have HDD := Lib.hid (show (acc ++ [lesS l[i] m[k]]) ++ sjoin (cov a) (cov b) (l.drop (i + 1)) (m.drop (k + 1)) = sjoin (cov a) (cov b) l m by
                  rw [← hD.out, sj_both hi hk hc]; simp)
                clear hc
                go_wp2
                refine over_region (W := wr) (by kernel_rfl) (by kernel_rfl) (by repeat (first | exact Below.refl _ _ | refine bl_drewN ?_ _ | refine bl_drew ?_ | refine bl_alloc ?_ _)) ?_
                repeat (go_big_quiet_step ((go_at_call 75; exact over_of (order_is l[i].d m[k].d _ HC.out _))))
                refine wpQuiet_nil ?_
                intro _ hx_
                obtain ⟨x_, hx_⟩ := hx_
                subst hx_
                obtain ⟨w5, hb5⟩ := x_
                dsimp only
                have L6 := Lib.hid (below_then L5.out hb5)
                have O6 := Lib.hid (ho.out.below hb5)
                have OS6 := Lib.hid (OS.out.below hb5)
                clear hb5
                clear s0 s1 t0 t1 x0 x1 x2 x3 y0 y1 y2 y3 ks0 ks1 kt0 kt1 kx0 kx1 kx2 kx3 ky0 ky1 ky2 ky3
                obtain ⟨xd2, e_, _, x0, x1, x2, x3⟩ := sib_at (HL.out.below LW.out) i hi
                cases e_
                obtain ⟨yd2, e_, _, y0, y1, y2, y3⟩ := sib_at (HM.out.below LW.out) k hk
                cases e_
                have KZx0 := Lib.hid x0
                have KZx1 := Lib.hid x1
                have KZx2 := Lib.hid x2
                have KZx3 := Lib.hid x3
                have KZy0 := Lib.hid y0
                have KZy1 := Lib.hid y1
                have KZy2 := Lib.hid y2
                have KZy3 := Lib.hid y3
                have KZs0 : Hid (W1.cell? ⟨w.heap.size, 0, none⟩ = some (.slice A a.length c1)) := Lib.hid (XA.out.cell 0)
                have KZs1 : Hid (W1.cell? ⟨w.heap.size, 1, none⟩ = some (.slice (some xd) l.length c2)) := Lib.hid (XA.out.cell 1)
                have KZt0 : Hid (W1.cell? ⟨w.heap.size + 1, 0, none⟩ = some (.slice C b.length c3)) := Lib.hid (XB.out.cell 0)
                have KZt1 : Hid (W1.cell? ⟨w.heap.size + 1, 1, none⟩ = some (.slice (some yd) m.length c4)) := Lib.hid (XB.out.cell 1)
                clear x0 x1 x2 x3 y0 y1 y2 y3
                have LX := L6
                have HW6 := Lib.hid (L6.out.size : W1.heap.size ≤ w5.heap.size)
                go_wp2
                refine wp_region_held_drew (S := fun w' => w'.cell? ⟨w.heap.size, 0, none⟩ = some (.slice A a.length c1) ∧ w'.cell? ⟨w.heap.size, 1, none⟩ = some (.slice (some xd) l.length c2) ∧ w'.cell? ⟨w.heap.size + 1, 0, none⟩ = some (.slice C b.length c3) ∧ w'.cell? ⟨w.heap.size + 1, 1, none⟩ = some (.slice (some yd) m.length c4) ∧ w'.cell? (xd.add (i * 4)) = some (.int .u32 l[i].d.a) ∧ w'.cell? ⟨(xd.add (i * 4)).block, (xd.add (i * 4)).off + 1, none⟩ = some (.int .u64 l[i].d.n) ∧ w'.cell? ⟨(xd.add (i * 4)).block, (xd.add (i * 4)).off + 2, none⟩ = some (.bool l[i].gone) ∧ w'.cell? ⟨(xd.add (i * 4)).block, (xd.add (i * 4)).off + 3, none⟩ = some (.string l[i].v) ∧ w'.cell? (yd.add (k * 4)) = some (.int .u32 m[k].d.a) ∧ w'.cell? ⟨(yd.add (k * 4)).block, (yd.add (k * 4)).off + 1, none⟩ = some (.int .u64 m[k].d.n) ∧ w'.cell? ⟨(yd.add (k * 4)).block, (yd.add (k * 4)).off + 2, none⟩ = some (.bool m[k].gone) ∧ w'.cell? ⟨(yd.add (k * 4)).block, (yd.add (k * 4)).off + 3, none⟩ = some (.string m[k].v)) (by kernel_rfl) ?_ (fun hHeld => ?_)
                · exact ⟨(Below.cell (p := ⟨w.heap.size, 0, none⟩) (by repeat (first | exact LX.out | refine bl_drewN ?_ _ | refine bl_drew ?_ | refine bl_alloc ?_ _)) (World.block_lt_of_cell? W1 _ KZs0.out)).trans KZs0.out, (Below.cell (p := ⟨w.heap.size, 1, none⟩) (by repeat (first | exact LX.out | refine bl_drewN ?_ _ | refine bl_drew ?_ | refine bl_alloc ?_ _)) (World.block_lt_of_cell? W1 _ KZs1.out)).trans KZs1.out, (Below.cell (p := ⟨w.heap.size + 1, 0, none⟩) (by repeat (first | exact LX.out | refine bl_drewN ?_ _ | refine bl_drew ?_ | refine bl_alloc ?_ _)) (World.block_lt_of_cell? W1 _ KZt0.out)).trans KZt0.out, (Below.cell (p := ⟨w.heap.size + 1, 1, none⟩) (by repeat (first | exact LX.out | refine bl_drewN ?_ _ | refine bl_drew ?_ | refine bl_alloc ?_ _)) (World.block_lt_of_cell? W1 _ KZt1.out)).trans KZt1.out, (Below.cell (p := (xd.add (i * 4))) (by repeat (first | exact LX.out | refine bl_drewN ?_ _ | refine bl_drew ?_ | refine bl_alloc ?_ _)) (World.block_lt_of_cell? W1 _ KZx0.out)).trans KZx0.out, (Below.cell (p := ⟨(xd.add (i * 4)).block, (xd.add (i * 4)).off + 1, none⟩) (by repeat (first | exact LX.out | refine bl_drewN ?_ _ | refine bl_drew ?_ | refine bl_alloc ?_ _)) (World.block_lt_of_cell? W1 _ KZx1.out)).trans KZx1.out, (Below.cell (p := ⟨(xd.add (i * 4)).block, (xd.add (i * 4)).off + 2, none⟩) (by repeat (first | exact LX.out | refine bl_drewN ?_ _ | refine bl_drew ?_ | refine bl_alloc ?_ _)) (World.block_lt_of_cell? W1 _ KZx2.out)).trans KZx2.out, (Below.cell (p := ⟨(xd.add (i * 4)).block, (xd.add (i * 4)).off + 3, none⟩) (by repeat (first | exact LX.out | refine bl_drewN ?_ _ | refine bl_drew ?_ | refine bl_alloc ?_ _)) (World.block_lt_of_cell? W1 _ KZx3.out)).trans KZx3.out, (Below.cell (p := (yd.add (k * 4))) (by repeat (first | exact LX.out | refine bl_drewN ?_ _ | refine bl_drew ?_ | refine bl_alloc ?_ _)) (World.block_lt_of_cell? W1 _ KZy0.out)).trans KZy0.out, (Below.cell (p := ⟨(yd.add (k * 4)).block, (yd.add (k * 4)).off + 1, none⟩) (by repeat (first | exact LX.out | refine bl_drewN ?_ _ | refine bl_drew ?_ | refine bl_alloc ?_ _)) (World.block_lt_of_cell? W1 _ KZy1.out)).trans KZy1.out, (Below.cell (p := ⟨(yd.add (k * 4)).block, (yd.add (k * 4)).off + 2, none⟩) (by repeat (first | exact LX.out | refine bl_drewN ?_ _ | refine bl_drew ?_ | refine bl_alloc ?_ _)) (World.block_lt_of_cell? W1 _ KZy2.out)).trans KZy2.out, (Below.cell (p := ⟨(yd.add (k * 4)).block, (yd.add (k * 4)).off + 3, none⟩) (by repeat (first | exact LX.out | refine bl_drewN ?_ _ | refine bl_drew ?_ | refine bl_alloc ?_ _)) (World.block_lt_of_cell? W1 _ KZy3.out)).trans KZy3.out⟩
                refine wpAnyH_take (i := 0) (oi := { dst := some 71, op := Op.move (Operand.tmp 8), type := 23, pos := "dvv.go:80", after := #[], guard := none }) (v := ?_) rfl (by kernel_rfl) (by kernel_rfl) (by kernel_rfl) (fun _ _ _ h => h) (Or.inl ⟨by rfl, ?_⟩) (by assumption) ?_
                rotate_left
                · intro w_ hSw
                  (try dsimp only at hSw)
                  go_simp
                  first | done | with_reducible rfl
                try simp only [Act.put, List.setIfInBounds_toArray, List.set_cons_zero, List.set_cons_succ]
                refine wpAnyH_take (i := 1) (oi := { dst := some 72, op := Op.fieldAddr 25 (Operand.tmp 2) 1, type := 0, pos := "dvv.go:80", after := #[], guard := none }) (v := ?_) rfl (by kernel_rfl) (by kernel_rfl) (by kernel_rfl) (fun _ _ _ h => h) (Or.inl ⟨by rfl, ?_⟩) (by assumption) ?_
                rotate_left
                · intro w_ hSw
                  (try dsimp only at hSw)
                  go_simp
                  first | done | with_reducible rfl
                try simp only [Act.put, List.setIfInBounds_toArray, List.set_cons_zero, List.set_cons_succ]
                refine wpAnyH_take (i := 2) (oi := { dst := some 73, op := Op.load 23 (Operand.tmp 72), type := 23, pos := "dvv.go:80", after := #[{ on := 1, ground := Ground.data }], guard := none }) (v := ?_) rfl (by kernel_rfl) (by kernel_rfl) (by kernel_rfl) (fun _ _ _ h => h) (Or.inl ⟨by rfl, ?_⟩) (by assumption) ?_
                rotate_left
                · intro w_ hSw
                  (try dsimp only at hSw)
                  go_simp
                  first | done | with_reducible rfl
                try simp only [Act.put, List.setIfInBounds_toArray, List.set_cons_zero, List.set_cons_succ]
                refine wpAnyH_take (i := 3) (oi := { dst := some 74, op := Op.move (Operand.tmp 9), type := 3, pos := "dvv.go:80", after := #[], guard := none }) (v := ?_) rfl (by kernel_rfl) (by kernel_rfl) (by kernel_rfl) (fun _ _ _ h => h) (Or.inl ⟨by rfl, ?_⟩) (by assumption) ?_
                rotate_left
                · intro w_ hSw
                  (try dsimp only at hSw)
                  go_simp
                  first | done | with_reducible rfl
                try simp only [Act.put, List.setIfInBounds_toArray, List.set_cons_zero, List.set_cons_succ]
                refine wpAnyH_take (i := 4) (oi := { dst := some 75, op := Op.indexAddr 23 (Operand.tmp 73) (Operand.tmp 74), type := 0, pos := "dvv.go:80", after := #[{ on := 2, ground := Ground.data }, { on := 3, ground := Ground.data }], guard := none }) (v := ?_) rfl (by kernel_rfl) (by kernel_rfl) (by kernel_rfl) (fun _ _ _ h => h) (Or.inl ⟨by rfl, ?_⟩) (by assumption) ?_
                rotate_left
                · intro w_ hSw
                  (try dsimp only at hSw)
                  go_simp
                  first | done | with_reducible rfl
                try simp only [Act.put, List.setIfInBounds_toArray, List.set_cons_zero, List.set_cons_succ]
                refine wpAnyH_take (i := 5) (oi := { dst := some 76, op := Op.load 67 (Operand.tmp 75), type := 67, pos := "dvv.go:80", after := #[{ on := 4, ground := Ground.data }], guard := none }) (v := ?_) rfl (by kernel_rfl) (by kernel_rfl) (by kernel_rfl) (fun _ _ _ h => h) (Or.inl ⟨by rfl, ?_⟩) (by assumption) ?_
                rotate_left
                · intro w_ hSw
                  (try dsimp only at hSw)
                  go_simp
                  first | done | with_reducible rfl
                try simp only [Act.put, List.setIfInBounds_toArray, List.set_cons_zero, List.set_cons_succ]
                refine wpAnyH_take (i := 6) (oi := { dst := some 77, op := Op.fieldAddr 25 (Operand.tmp 3) 1, type := 0, pos := "dvv.go:80", after := #[], guard := none }) (v := ?_) rfl (by kernel_rfl) (by kernel_rfl) (by kernel_rfl) (fun _ _ _ h => h) (Or.inl ⟨by rfl, ?_⟩) (by assumption) ?_
                rotate_left
                · intro w_ hSw
                  (try dsimp only at hSw)
                  go_simp
                  first | done | with_reducible rfl
                try simp only [Act.put, List.setIfInBounds_toArray, List.set_cons_zero, List.set_cons_succ]
                refine wpAnyH_take (i := 7) (oi := { dst := some 78, op := Op.load 23 (Operand.tmp 77), type := 23, pos := "dvv.go:80", after := #[{ on := 6, ground := Ground.data }], guard := none }) (v := ?_) rfl (by kernel_rfl) (by kernel_rfl) (by kernel_rfl) (fun _ _ _ h => h) (Or.inl ⟨by rfl, ?_⟩) (by assumption) ?_
                rotate_left
                · intro w_ hSw
                  (try dsimp only at hSw)
                  go_simp
                  first | done | with_reducible rfl
                try simp only [Act.put, List.setIfInBounds_toArray, List.set_cons_zero, List.set_cons_succ]
                refine wpAnyH_take (i := 8) (oi := { dst := some 79, op := Op.move (Operand.tmp 10), type := 3, pos := "dvv.go:80", after := #[], guard := none }) (v := ?_) rfl (by kernel_rfl) (by kernel_rfl) (by kernel_rfl) (fun _ _ _ h => h) (Or.inl ⟨by rfl, ?_⟩) (by assumption) ?_
                rotate_left
                · intro w_ hSw
                  (try dsimp only at hSw)
                  go_simp
                  first | done | with_reducible rfl
                try simp only [Act.put, List.setIfInBounds_toArray, List.set_cons_zero, List.set_cons_succ]
                refine wpAnyH_take (i := 9) (oi := { dst := some 80, op := Op.indexAddr 23 (Operand.tmp 78) (Operand.tmp 79), type := 0, pos := "dvv.go:80", after := #[{ on := 7, ground := Ground.data }, { on := 8, ground := Ground.data }], guard := none }) (v := ?_) rfl (by kernel_rfl) (by kernel_rfl) (by kernel_rfl) (fun _ _ _ h => h) (Or.inl ⟨by rfl, ?_⟩) (by assumption) ?_
                rotate_left
                · intro w_ hSw
                  (try dsimp only at hSw)
                  go_simp
                  first | done | with_reducible rfl
                try simp only [Act.put, List.setIfInBounds_toArray, List.set_cons_zero, List.set_cons_succ]
                refine wpAnyH_take (i := 10) (oi := { dst := some 81, op := Op.load 67 (Operand.tmp 80), type := 67, pos := "dvv.go:80", after := #[{ on := 9, ground := Ground.data }], guard := none }) (v := ?_) rfl (by kernel_rfl) (by kernel_rfl) (by kernel_rfl) (fun _ _ _ h => h) (Or.inl ⟨by rfl, ?_⟩) (by assumption) ?_
                rotate_left
                · intro w_ hSw
                  (try dsimp only at hSw)
                  go_simp
                  first | done | with_reducible rfl
                try simp only [Act.put, List.setIfInBounds_toArray, List.set_cons_zero, List.set_cons_succ]
                refine wpAnyH_ready (rs := [11]) (by kernel_rfl) (by simp) ?_
                refine AllReadyH.cons (o := { dst := some 82, op := Op.call { callee := Callee.value (Operand.func 77), args := #[Operand.tmp 76, Operand.tmp 81], argTypes := #[67, 67] }, type := 67, pos := "dvv.go:80", after := #[{ on := 5, ground := Ground.data }, { on := 10, ground := Ground.data }], guard := none }) rfl (fun K hK => ?_) (AllReadyH.nil)
                go_simp
                go_at_call 77
                refine (lesser_x _ _ _).mono ?_
                rintro e w6 ⟨rfl, hb6⟩
                have O7 := Lib.hid (GR.Own.below (by repeat (first | exact O6.out | refine GR.Own.drewN ?_ _ | refine GR.Own.drew ?_ | refine GR.Own.alloc ?_ _)) hb6)
                have OS7 := Lib.hid (GR.Own.below (by repeat (first | exact OS6.out | refine GR.Own.drewN ?_ _ | refine GR.Own.drew ?_ | refine GR.Own.alloc ?_ _)) hb6)
                have N_ := Lib.hid (bl_then (w := W1) (by repeat (first | exact LX.out | refine bl_drewN ?_ _ | refine bl_drew ?_ | refine bl_alloc ?_ _)) hb6)
                clear hb6 LX
                have LX := N_
                clear N_
                refine hK.out _ _ ?_ (fun hHeld => ?_)
                · exact ⟨(Below.cell (p := ⟨w.heap.size, 0, none⟩) (by repeat (first | exact LX.out | refine bl_drewN ?_ _ | refine bl_drew ?_ | refine bl_alloc ?_ _)) (World.block_lt_of_cell? W1 _ KZs0.out)).trans KZs0.out, (Below.cell (p := ⟨w.heap.size, 1, none⟩) (by repeat (first | exact LX.out | refine bl_drewN ?_ _ | refine bl_drew ?_ | refine bl_alloc ?_ _)) (World.block_lt_of_cell? W1 _ KZs1.out)).trans KZs1.out, (Below.cell (p := ⟨w.heap.size + 1, 0, none⟩) (by repeat (first | exact LX.out | refine bl_drewN ?_ _ | refine bl_drew ?_ | refine bl_alloc ?_ _)) (World.block_lt_of_cell? W1 _ KZt0.out)).trans KZt0.out, (Below.cell (p := ⟨w.heap.size + 1, 1, none⟩) (by repeat (first | exact LX.out | refine bl_drewN ?_ _ | refine bl_drew ?_ | refine bl_alloc ?_ _)) (World.block_lt_of_cell? W1 _ KZt1.out)).trans KZt1.out, (Below.cell (p := (xd.add (i * 4))) (by repeat (first | exact LX.out | refine bl_drewN ?_ _ | refine bl_drew ?_ | refine bl_alloc ?_ _)) (World.block_lt_of_cell? W1 _ KZx0.out)).trans KZx0.out, (Below.cell (p := ⟨(xd.add (i * 4)).block, (xd.add (i * 4)).off + 1, none⟩) (by repeat (first | exact LX.out | refine bl_drewN ?_ _ | refine bl_drew ?_ | refine bl_alloc ?_ _)) (World.block_lt_of_cell? W1 _ KZx1.out)).trans KZx1.out, (Below.cell (p := ⟨(xd.add (i * 4)).block, (xd.add (i * 4)).off + 2, none⟩) (by repeat (first | exact LX.out | refine bl_drewN ?_ _ | refine bl_drew ?_ | refine bl_alloc ?_ _)) (World.block_lt_of_cell? W1 _ KZx2.out)).trans KZx2.out, (Below.cell (p := ⟨(xd.add (i * 4)).block, (xd.add (i * 4)).off + 3, none⟩) (by repeat (first | exact LX.out | refine bl_drewN ?_ _ | refine bl_drew ?_ | refine bl_alloc ?_ _)) (World.block_lt_of_cell? W1 _ KZx3.out)).trans KZx3.out, (Below.cell (p := (yd.add (k * 4))) (by repeat (first | exact LX.out | refine bl_drewN ?_ _ | refine bl_drew ?_ | refine bl_alloc ?_ _)) (World.block_lt_of_cell? W1 _ KZy0.out)).trans KZy0.out, (Below.cell (p := ⟨(yd.add (k * 4)).block, (yd.add (k * 4)).off + 1, none⟩) (by repeat (first | exact LX.out | refine bl_drewN ?_ _ | refine bl_drew ?_ | refine bl_alloc ?_ _)) (World.block_lt_of_cell? W1 _ KZy1.out)).trans KZy1.out, (Below.cell (p := ⟨(yd.add (k * 4)).block, (yd.add (k * 4)).off + 2, none⟩) (by repeat (first | exact LX.out | refine bl_drewN ?_ _ | refine bl_drew ?_ | refine bl_alloc ?_ _)) (World.block_lt_of_cell? W1 _ KZy2.out)).trans KZy2.out, (Below.cell (p := ⟨(yd.add (k * 4)).block, (yd.add (k * 4)).off + 3, none⟩) (by repeat (first | exact LX.out | refine bl_drewN ?_ _ | refine bl_drew ?_ | refine bl_alloc ?_ _)) (World.block_lt_of_cell? W1 _ KZy3.out)).trans KZy3.out⟩
                clear hK K
                try simp only [Act.put, List.setIfInBounds_toArray, List.set_cons_zero, List.set_cons_succ]
                refine wpAnyH_ready (rs := [12]) (by kernel_rfl) (by simp) ?_
                refine AllReadyH.cons (o := { dst := some 83, op := Op.buildSlice 23 1 #[(0, Operand.tmp 82)], type := 23, pos := "dvv.go:80", after := #[{ on := 11, ground := Ground.data }], guard := none }) rfl (fun K hK => ?_) (AllReadyH.nil)
                go_simp
                skip
                refine hK.out _ _ ?_ (fun hHeld => ?_)
                · exact ⟨(Below.cell (p := ⟨w.heap.size, 0, none⟩) (by repeat (first | exact LX.out | refine bl_drewN ?_ _ | refine bl_drew ?_ | refine bl_alloc ?_ _)) (World.block_lt_of_cell? W1 _ KZs0.out)).trans KZs0.out, (Below.cell (p := ⟨w.heap.size, 1, none⟩) (by repeat (first | exact LX.out | refine bl_drewN ?_ _ | refine bl_drew ?_ | refine bl_alloc ?_ _)) (World.block_lt_of_cell? W1 _ KZs1.out)).trans KZs1.out, (Below.cell (p := ⟨w.heap.size + 1, 0, none⟩) (by repeat (first | exact LX.out | refine bl_drewN ?_ _ | refine bl_drew ?_ | refine bl_alloc ?_ _)) (World.block_lt_of_cell? W1 _ KZt0.out)).trans KZt0.out, (Below.cell (p := ⟨w.heap.size + 1, 1, none⟩) (by repeat (first | exact LX.out | refine bl_drewN ?_ _ | refine bl_drew ?_ | refine bl_alloc ?_ _)) (World.block_lt_of_cell? W1 _ KZt1.out)).trans KZt1.out, (Below.cell (p := (xd.add (i * 4))) (by repeat (first | exact LX.out | refine bl_drewN ?_ _ | refine bl_drew ?_ | refine bl_alloc ?_ _)) (World.block_lt_of_cell? W1 _ KZx0.out)).trans KZx0.out, (Below.cell (p := ⟨(xd.add (i * 4)).block, (xd.add (i * 4)).off + 1, none⟩) (by repeat (first | exact LX.out | refine bl_drewN ?_ _ | refine bl_drew ?_ | refine bl_alloc ?_ _)) (World.block_lt_of_cell? W1 _ KZx1.out)).trans KZx1.out, (Below.cell (p := ⟨(xd.add (i * 4)).block, (xd.add (i * 4)).off + 2, none⟩) (by repeat (first | exact LX.out | refine bl_drewN ?_ _ | refine bl_drew ?_ | refine bl_alloc ?_ _)) (World.block_lt_of_cell? W1 _ KZx2.out)).trans KZx2.out, (Below.cell (p := ⟨(xd.add (i * 4)).block, (xd.add (i * 4)).off + 3, none⟩) (by repeat (first | exact LX.out | refine bl_drewN ?_ _ | refine bl_drew ?_ | refine bl_alloc ?_ _)) (World.block_lt_of_cell? W1 _ KZx3.out)).trans KZx3.out, (Below.cell (p := (yd.add (k * 4))) (by repeat (first | exact LX.out | refine bl_drewN ?_ _ | refine bl_drew ?_ | refine bl_alloc ?_ _)) (World.block_lt_of_cell? W1 _ KZy0.out)).trans KZy0.out, (Below.cell (p := ⟨(yd.add (k * 4)).block, (yd.add (k * 4)).off + 1, none⟩) (by repeat (first | exact LX.out | refine bl_drewN ?_ _ | refine bl_drew ?_ | refine bl_alloc ?_ _)) (World.block_lt_of_cell? W1 _ KZy1.out)).trans KZy1.out, (Below.cell (p := ⟨(yd.add (k * 4)).block, (yd.add (k * 4)).off + 2, none⟩) (by repeat (first | exact LX.out | refine bl_drewN ?_ _ | refine bl_drew ?_ | refine bl_alloc ?_ _)) (World.block_lt_of_cell? W1 _ KZy2.out)).trans KZy2.out, (Below.cell (p := ⟨(yd.add (k * 4)).block, (yd.add (k * 4)).off + 3, none⟩) (by repeat (first | exact LX.out | refine bl_drewN ?_ _ | refine bl_drew ?_ | refine bl_alloc ?_ _)) (World.block_lt_of_cell? W1 _ KZy3.out)).trans KZy3.out⟩
                clear hK K
                try simp only [Act.put, List.setIfInBounds_toArray, List.set_cons_zero, List.set_cons_succ]
                refine wpAnyH_ready (rs := [13]) (by kernel_rfl) (by simp) ?_
                refine AllReadyH.cons (o := { dst := some 84, op := Op.call { callee := Callee.builtin Builtin.append, args := #[Operand.tmp 71, Operand.tmp 83], argTypes := #[23, 23] }, type := 23, pos := "dvv.go:80", after := #[{ on := 0, ground := Ground.data }, { on := 12, ground := Ground.data }, { on := 11, ground := Ground.chain }], guard := none }) rfl (fun K hK => ?_) (AllReadyH.nil)
                refine GR.step_one (K := sibK) rfl (.tmp 71) (.tmp 83) _ rfl Try.underlying23 hi0 hz0 hz1 hz2 rfl W1.heap.size _ acc (lesS l[i] m[k]) rfl (by repeat (first | exact O7.out | refine GR.Own.drewN ?_ _ | refine GR.Own.drew ?_ | refine GR.Own.alloc ?_ _)) _ rfl (by repeat (first | exact GR.rd_new _ rfl (by show 40 ≤ 140737488355328; omega) | refine GR.Rd.drewN ?_ _ | refine GR.Rd.drew ?_)) HLL.out (Below.size (w := W1) (by repeat (first | exact LX.out | refine bl_drewN ?_ _ | refine bl_drew ?_ | refine bl_alloc ?_ _))) ?_
                intro v9 w9 ho9 hg9 hat9
                have O9 := Lib.hid ho9
                have OS9 : Hid (GR.Own dotK w9 W1.heap.size vs (vmax a b)) := Lib.hid (GR.Own.grown (K := dotK) (B := W1.heap.size) (v := vs) (l := vmax a b) (by repeat (first | exact OS7.out | refine GR.Own.drewN ?_ _ | refine GR.Own.drew ?_ | refine GR.Own.alloc ?_ _)) hg9 (own_apart OS7.out O7.out (by decide)))
                have L9 := Lib.hid (Below.grown (a := W1) (by repeat (first | exact LX.out | refine bl_drewN ?_ _ | refine bl_drew ?_ | refine bl_alloc ?_ _)) hg9 (Below.size (w := W1) (by repeat (first | exact LX.out | refine bl_drewN ?_ _ | refine bl_drew ?_ | refine bl_alloc ?_ _))) (fun b hb => (O7.out.lt b hb).1))
                clear LX ho9 hg9 hat9
                have LX := L9
                refine hK.out _ _ ?_ (fun hHeld => ?_)
                · exact ⟨(Below.cell (p := ⟨w.heap.size, 0, none⟩) (by repeat (first | exact LX.out | refine bl_drewN ?_ _ | refine bl_drew ?_ | refine bl_alloc ?_ _)) (World.block_lt_of_cell? W1 _ KZs0.out)).trans KZs0.out, (Below.cell (p := ⟨w.heap.size, 1, none⟩) (by repeat (first | exact LX.out | refine bl_drewN ?_ _ | refine bl_drew ?_ | refine bl_alloc ?_ _)) (World.block_lt_of_cell? W1 _ KZs1.out)).trans KZs1.out, (Below.cell (p := ⟨w.heap.size + 1, 0, none⟩) (by repeat (first | exact LX.out | refine bl_drewN ?_ _ | refine bl_drew ?_ | refine bl_alloc ?_ _)) (World.block_lt_of_cell? W1 _ KZt0.out)).trans KZt0.out, (Below.cell (p := ⟨w.heap.size + 1, 1, none⟩) (by repeat (first | exact LX.out | refine bl_drewN ?_ _ | refine bl_drew ?_ | refine bl_alloc ?_ _)) (World.block_lt_of_cell? W1 _ KZt1.out)).trans KZt1.out, (Below.cell (p := (xd.add (i * 4))) (by repeat (first | exact LX.out | refine bl_drewN ?_ _ | refine bl_drew ?_ | refine bl_alloc ?_ _)) (World.block_lt_of_cell? W1 _ KZx0.out)).trans KZx0.out, (Below.cell (p := ⟨(xd.add (i * 4)).block, (xd.add (i * 4)).off + 1, none⟩) (by repeat (first | exact LX.out | refine bl_drewN ?_ _ | refine bl_drew ?_ | refine bl_alloc ?_ _)) (World.block_lt_of_cell? W1 _ KZx1.out)).trans KZx1.out, (Below.cell (p := ⟨(xd.add (i * 4)).block, (xd.add (i * 4)).off + 2, none⟩) (by repeat (first | exact LX.out | refine bl_drewN ?_ _ | refine bl_drew ?_ | refine bl_alloc ?_ _)) (World.block_lt_of_cell? W1 _ KZx2.out)).trans KZx2.out, (Below.cell (p := ⟨(xd.add (i * 4)).block, (xd.add (i * 4)).off + 3, none⟩) (by repeat (first | exact LX.out | refine bl_drewN ?_ _ | refine bl_drew ?_ | refine bl_alloc ?_ _)) (World.block_lt_of_cell? W1 _ KZx3.out)).trans KZx3.out, (Below.cell (p := (yd.add (k * 4))) (by repeat (first | exact LX.out | refine bl_drewN ?_ _ | refine bl_drew ?_ | refine bl_alloc ?_ _)) (World.block_lt_of_cell? W1 _ KZy0.out)).trans KZy0.out, (Below.cell (p := ⟨(yd.add (k * 4)).block, (yd.add (k * 4)).off + 1, none⟩) (by repeat (first | exact LX.out | refine bl_drewN ?_ _ | refine bl_drew ?_ | refine bl_alloc ?_ _)) (World.block_lt_of_cell? W1 _ KZy1.out)).trans KZy1.out, (Below.cell (p := ⟨(yd.add (k * 4)).block, (yd.add (k * 4)).off + 2, none⟩) (by repeat (first | exact LX.out | refine bl_drewN ?_ _ | refine bl_drew ?_ | refine bl_alloc ?_ _)) (World.block_lt_of_cell? W1 _ KZy2.out)).trans KZy2.out, (Below.cell (p := ⟨(yd.add (k * 4)).block, (yd.add (k * 4)).off + 3, none⟩) (by repeat (first | exact LX.out | refine bl_drewN ?_ _ | refine bl_drew ?_ | refine bl_alloc ?_ _)) (World.block_lt_of_cell? W1 _ KZy3.out)).trans KZy3.out⟩
                clear hK K
                try simp only [Act.put, List.setIfInBounds_toArray, List.set_cons_zero, List.set_cons_succ]
                refine wpAnyH_take (i := 14) (oi := { dst := some 8, op := Op.assign (Operand.tmp 84), type := 23, pos := "dvv.go:80", after := #[{ on := 13, ground := Ground.data }, { on := 13, ground := Ground.chain }, { on := 0, ground := Ground.phase }, { on := 1, ground := Ground.phase }, { on := 2, ground := Ground.phase }, { on := 3, ground := Ground.phase }, { on := 4, ground := Ground.phase }, { on := 5, ground := Ground.phase }, { on := 6, ground := Ground.phase }, { on := 7, ground := Ground.phase }, { on := 8, ground := Ground.phase }, { on := 9, ground := Ground.phase }, { on := 10, ground := Ground.phase }, { on := 11, ground := Ground.phase }, { on := 12, ground := Ground.phase }, { on := 13, ground := Ground.phase }], guard := none }) (v := ?_) rfl (by kernel_rfl) (by kernel_rfl) (by kernel_rfl) (fun _ _ _ h => h) (Or.inl ⟨by rfl, ?_⟩) (by assumption) ?_
                rotate_left
                · intro w_ hSw
                  (try dsimp only at hSw)
                  go_simp
                  first | done | with_reducible rfl
                try simp only [Act.put, List.setIfInBounds_toArray, List.set_cons_zero, List.set_cons_succ]
                refine wpAnyH_done (by kernel_rfl) ?_ _
                go_wp2
                go_roundw
                case rel => exact ⟨_, i + 1, k + 1, _, rfl, by omega, by omega, by go_num, by go_num, HDD, by first | omega | (simp; omega), O9, OS9, L9⟩
                case measure => simp [intOf]; omega
              · have HC := Lib.hid (cmpD_gt hc)
                have HSJ := Lib.hid (sj_right (ca := cov a) (cb := cov b) (l := l) (i := i) hk (.inr ⟨hi, hc⟩))
                clear hc
                go_wp2
                refine over_region (W := wr) (by kernel_rfl) (by kernel_rfl) (by repeat (first | exact Below.refl _ _ | refine bl_drewN ?_ _ | refine bl_drew ?_ | refine bl_alloc ?_ _)) ?_
                repeat (go_big_quiet_step ((go_at_call 75; exact over_of (order_is l[i].d m[k].d _ HC.out _))))
                refine wpQuiet_nil ?_
                intro _ hx_
                obtain ⟨x_, hx_⟩ := hx_
                subst hx_
                obtain ⟨w5, hb5⟩ := x_
                dsimp only
                replace ks0 := over_next ks0 w5 hb5
                replace ks1 := over_next ks1 w5 hb5
                replace kt0 := over_next kt0 w5 hb5
                replace kt1 := over_next kt1 w5 hb5
                replace kx0 := over_next kx0 w5 hb5
                replace kx1 := over_next kx1 w5 hb5
                replace kx2 := over_next kx2 w5 hb5
                replace kx3 := over_next kx3 w5 hb5
                replace ky0 := over_next ky0 w5 hb5
                replace ky1 := over_next ky1 w5 hb5
                replace ky2 := over_next ky2 w5 hb5
                replace ky3 := over_next ky3 w5 hb5
                have zs0 := over_at ks0 w5 (Below.refl _ _)
                have zs1 := over_at ks1 w5 (Below.refl _ _)
                have zt0 := over_at kt0 w5 (Below.refl _ _)
                have zt1 := over_at kt1 w5 (Below.refl _ _)
                have L6 := Lib.hid (below_then L5.out hb5)
                have O6 := Lib.hid (ho.out.below hb5)
                have OS6 := Lib.hid (OS.out.below hb5)
                clear hb5
                clear s0 s1 t0 t1 x0 x1 x2 x3 y0 y1 y2 y3
                have HBW := Lib.hid (bl_then LW.out L6.out)
                cases hcv : cov a m[k].d with
                | true =>
                  have HCV := Lib.hid hcv
                  have HDD := Lib.hid (show acc ++ sjoin (cov a) (cov b) (l.drop i) (m.drop (k + 1)) = sjoin (cov a) (cov b) l m by
                    rw [← hD.out, HSJ.out, hcv]; simp)
                  clear hcv
                  go_wp2
                  refine over_region (W := w5) (by kernel_rfl) (by kernel_rfl) (by repeat (first | exact Below.refl _ _ | refine bl_drewN ?_ _ | refine bl_drew ?_ | refine bl_alloc ?_ _)) ?_
                  repeat (go_big_quiet_step ((go_at_call 76; exact over_of (covers_is _ c1 a m[k].d _ HCV.out _ ((HA.out.below HBW.out).below (Over.h _)) NA.out ny))))
                  refine wpQuiet_nil ?_
                  intro _ hx_
                  obtain ⟨x_, hx_⟩ := hx_
                  subst hx_
                  obtain ⟨w7, hb7⟩ := x_
                  dsimp only
                  have L7 := Lib.hid (below_then L6.out hb7)
                  have O7 := Lib.hid (O6.out.below hb7)
                  have OS7 := Lib.hid (OS6.out.below hb7)
                  clear hb7
                  go_wp2
                  go_roundw
                  case rel => exact ⟨_, i, k + 1, acc, rfl, by omega, by omega, rfl, by go_num, Lib.hid HDD.out, by first | omega | (simp; omega), O7, OS7, L7⟩
                  case measure => simp [intOf]; omega
                | false =>
                  have HCV := Lib.hid hcv
                  have HDD := Lib.hid (show (acc ++ [m[k]]) ++ sjoin (cov a) (cov b) (l.drop i) (m.drop (k + 1)) = sjoin (cov a) (cov b) l m by
                    rw [← hD.out, HSJ.out, hcv]; simp)
                  clear hcv
                  go_wp2
                  refine over_region (W := w5) (by kernel_rfl) (by kernel_rfl) (by repeat (first | exact Below.refl _ _ | refine bl_drewN ?_ _ | refine bl_drew ?_ | refine bl_alloc ?_ _)) ?_
                  repeat (go_big_quiet_step ((go_at_call 76; exact over_of (covers_is _ c1 a m[k].d _ HCV.out _ ((HA.out.below HBW.out).below (Over.h _)) NA.out ny))))
                  refine wpQuiet_nil ?_
                  intro _ hx_
                  obtain ⟨x_, hx_⟩ := hx_
                  subst hx_
                  obtain ⟨w7, hb7⟩ := x_
                  dsimp only
                  have qs0 := over_at ks0 w7 hb7
                  have qs1 := over_at ks1 w7 hb7
                  have qt0 := over_at kt0 w7 hb7
                  have qt1 := over_at kt1 w7 hb7
                  have qy0 := over_at ky0 w7 hb7
                  have qy1 := over_at ky1 w7 hb7
                  have qy2 := over_at ky2 w7 hb7
                  have qy3 := over_at ky3 w7 hb7
                  have L7 := Lib.hid (below_then L6.out hb7)
                  have O7 := Lib.hid (O6.out.below hb7)
                  have OS7 := Lib.hid (OS6.out.below hb7)
                  clear hb7
                  have HW7 := Lib.hid (L7.out.size : W1.heap.size ≤ w7.heap.size)
                  go_wp2_with (at_builtin; refine GR.app_one (K := sibK) rfl (.tmp 125) (.tmp 131) _ rfl Try.underlying23 hi0 hz0 hz1 hz2 rfl W1.heap.size _ acc m[k] rfl O7.out rfl HLL.out HW7.out ?_; intro v9 w9 ho9 hg9 hat9; have O9 := Lib.hid ho9; have OS9 := Lib.hid (OS7.out.grown hg9 (own_apart OS7.out O7.out (by decide))); have L9 := Lib.hid (Below.grown L7.out hg9 HW7.out (fun b hb => (O7.out.lt b hb).1)); clear ho9 hg9 hat9)
                  go_roundw
                  case rel => exact ⟨_, i, k + 1, acc ++ [m[k]], rfl, by omega, by omega, rfl, by go_num, Lib.hid HDD.out, by first | omega | (simp; omega), O9, OS9, L9⟩
                  case measure => simp [intOf]; omega
            ·
              have ti1 : ((i : Int) == (l.length : Int)) = false := by simp; omega
              have ti2 : (i == l.length) = false := by simp; omega
              have ti3 : (0 : Int) ≤ (i : Int) := by omega
              have ti4 : (i : Int) < (l.length : Int) := by omega
              have tk1 : ((k : Int) == (m.length : Int)) = true := by simp; omega
              have tk2 : (k == m.length) = true := by simp; omega
              obtain ⟨xd, e_, _, x0, x1, x2, x3⟩ := sib_at (HL.out.below hb0.out) i hi
              subst e_
              have nx : 0 ≤ l[i].d.n := NL.out _ (List.getElem_mem hi)
              have ks0 := over_cell s0
              have ks1 := over_cell s1
              have kt0 := over_cell t0
              have kt1 := over_cell t1
              have kx0 := over_cell x0
              have kx1 := over_cell x1
              have kx2 := over_cell x2
              have kx3 := over_cell x3
              have HSJ := Lib.hid (sj_left (ca := cov a) (cb := cov b) (m := m) (k := k) hi (.inl (by omega)))
              have HBW := Lib.hid hb0.out
              cases hcv : cov b l[i].d with
              | true =>
                have HCV := Lib.hid hcv
                have HDD := Lib.hid (show acc ++ sjoin (cov a) (cov b) (l.drop (i + 1)) (m.drop k) = sjoin (cov a) (cov b) l m by
                  rw [← hD.out, HSJ.out, hcv]; simp)
                clear hcv
                go_wp2
                refine over_region (W := wr) (by kernel_rfl) (by kernel_rfl) (by repeat (first | exact Below.refl _ _ | refine bl_drewN ?_ _ | refine bl_drew ?_ | refine bl_alloc ?_ _)) ?_
                repeat (go_big_quiet_step ((go_at_call 76; exact over_of (covers_is _ c3 b l[i].d _ HCV.out _ ((HB.out.below HBW.out).below (Over.h _)) NB.out nx))))
                refine wpQuiet_nil ?_
                intro _ hx_
                obtain ⟨x_, hx_⟩ := hx_
                subst hx_
                obtain ⟨w7, hb7⟩ := x_
                dsimp only
                have L7 := Lib.hid (below_then L5.out hb7)
                have O7 := Lib.hid (ho.out.below hb7)
                have OS7 := Lib.hid (OS.out.below hb7)
                clear hb7
                go_wp2
                go_roundw
                case rel => exact ⟨_, i + 1, k, acc, rfl, by omega, by omega, by go_num, rfl, Lib.hid HDD.out, by first | omega | (simp; omega), O7, OS7, L7⟩
                case measure => simp [intOf]; omega
              | false =>
                have HCV := Lib.hid hcv
                have HDD := Lib.hid (show (acc ++ [l[i]]) ++ sjoin (cov a) (cov b) (l.drop (i + 1)) (m.drop k) = sjoin (cov a) (cov b) l m by
                  rw [← hD.out, HSJ.out, hcv]; simp)
                clear hcv
                go_wp2
                refine over_region (W := wr) (by kernel_rfl) (by kernel_rfl) (by repeat (first | exact Below.refl _ _ | refine bl_drewN ?_ _ | refine bl_drew ?_ | refine bl_alloc ?_ _)) ?_
                repeat (go_big_quiet_step ((go_at_call 76; exact over_of (covers_is _ c3 b l[i].d _ HCV.out _ ((HB.out.below HBW.out).below (Over.h _)) NB.out nx))))
                refine wpQuiet_nil ?_
                intro _ hx_
                obtain ⟨x_, hx_⟩ := hx_
                subst hx_
                obtain ⟨w7, hb7⟩ := x_
                dsimp only
                have qs0 := over_at ks0 w7 hb7
                have qs1 := over_at ks1 w7 hb7
                have qt0 := over_at kt0 w7 hb7
                have qt1 := over_at kt1 w7 hb7
                have qx0 := over_at kx0 w7 hb7
                have qx1 := over_at kx1 w7 hb7
                have qx2 := over_at kx2 w7 hb7
                have qx3 := over_at kx3 w7 hb7
                have L7 := Lib.hid (below_then L5.out hb7)
                have O7 := Lib.hid (ho.out.below hb7)
                have OS7 := Lib.hid (OS.out.below hb7)
                clear hb7
                have HW7 := Lib.hid (L7.out.size : W1.heap.size ≤ w7.heap.size)
                go_wp2_with (at_builtin; refine GR.app_one (K := sibK) rfl (.tmp 102) (.tmp 108) _ rfl Try.underlying23 hi0 hz0 hz1 hz2 rfl W1.heap.size _ acc l[i] rfl O7.out rfl HLL.out HW7.out ?_; intro v9 w9 ho9 hg9 hat9; have O9 := Lib.hid ho9; have OS9 := Lib.hid (OS7.out.grown hg9 (own_apart OS7.out O7.out (by decide))); have L9 := Lib.hid (Below.grown L7.out hg9 HW7.out (fun b hb => (O7.out.lt b hb).1)); clear ho9 hg9 hat9)
                go_roundw
                case rel => exact ⟨_, i + 1, k, acc ++ [l[i]], rfl, by omega, by omega, by go_num, rfl, Lib.hid HDD.out, by first | omega | (simp; omega), O9, OS9, L9⟩
                case measure => simp [intOf]; omega
          · by_cases hk : k < m.length
            ·
              have ti1 : ((i : Int) == (l.length : Int)) = true := by simp; omega
              have ti2 : (i == l.length) = true := by simp; omega
              have tk1 : ((k : Int) == (m.length : Int)) = false := by simp; omega
              have tk2 : (k == m.length) = false := by simp; omega
              have tk3 : (0 : Int) ≤ (k : Int) := by omega
              have tk4 : (k : Int) < (m.length : Int) := by omega
              obtain ⟨yd, e_, _, y0, y1, y2, y3⟩ := sib_at (HM.out.below hb0.out) k hk
              subst e_
              have ny : 0 ≤ m[k].d.n := NM.out _ (List.getElem_mem hk)
              have ks0 := over_cell s0
              have ks1 := over_cell s1
              have kt0 := over_cell t0
              have kt1 := over_cell t1
              have ky0 := over_cell y0
              have ky1 := over_cell y1
              have ky2 := over_cell y2
              have ky3 := over_cell y3
              have HSJ := Lib.hid (sj_right (ca := cov a) (cb := cov b) (l := l) (i := i) hk (.inl (by omega)))
              have HBW := Lib.hid hb0.out
              cases hcv : cov a m[k].d with
              | true =>
                have HCV := Lib.hid hcv
                have HDD := Lib.hid (show acc ++ sjoin (cov a) (cov b) (l.drop i) (m.drop (k + 1)) = sjoin (cov a) (cov b) l m by
                  rw [← hD.out, HSJ.out, hcv]; simp)
                clear hcv
                go_wp2
                refine over_region (W := wr) (by kernel_rfl) (by kernel_rfl) (by repeat (first | exact Below.refl _ _ | refine bl_drewN ?_ _ | refine bl_drew ?_ | refine bl_alloc ?_ _)) ?_
                repeat (go_big_quiet_step ((go_at_call 76; exact over_of (covers_is _ c1 a m[k].d _ HCV.out _ ((HA.out.below HBW.out).below (Over.h _)) NA.out ny))))
                refine wpQuiet_nil ?_
                intro _ hx_
                obtain ⟨x_, hx_⟩ := hx_
                subst hx_
                obtain ⟨w7, hb7⟩ := x_
                dsimp only
                have L7 := Lib.hid (below_then L5.out hb7)
                have O7 := Lib.hid (ho.out.below hb7)
                have OS7 := Lib.hid (OS.out.below hb7)
                clear hb7
                go_wp2
                go_roundw
                case rel => exact ⟨_, i, k + 1, acc, rfl, by omega, by omega, rfl, by go_num, Lib.hid HDD.out, by first | omega | (simp; omega), O7, OS7, L7⟩
                case measure => simp [intOf]; omega
              | false =>
                have HCV := Lib.hid hcv
                have HDD := Lib.hid (show (acc ++ [m[k]]) ++ sjoin (cov a) (cov b) (l.drop i) (m.drop (k + 1)) = sjoin (cov a) (cov b) l m by
                  rw [← hD.out, HSJ.out, hcv]; simp)
                clear hcv
                go_wp2
                refine over_region (W := wr) (by kernel_rfl) (by kernel_rfl) (by repeat (first | exact Below.refl _ _ | refine bl_drewN ?_ _ | refine bl_drew ?_ | refine bl_alloc ?_ _)) ?_
                repeat (go_big_quiet_step ((go_at_call 76; exact over_of (covers_is _ c1 a m[k].d _ HCV.out _ ((HA.out.below HBW.out).below (Over.h _)) NA.out ny))))
                refine wpQuiet_nil ?_
                intro _ hx_
                obtain ⟨x_, hx_⟩ := hx_
                subst hx_
                obtain ⟨w7, hb7⟩ := x_
                dsimp only
                have qs0 := over_at ks0 w7 hb7
                have qs1 := over_at ks1 w7 hb7
                have qt0 := over_at kt0 w7 hb7
                have qt1 := over_at kt1 w7 hb7
                have qy0 := over_at ky0 w7 hb7
                have qy1 := over_at ky1 w7 hb7
                have qy2 := over_at ky2 w7 hb7
                have qy3 := over_at ky3 w7 hb7
                have L7 := Lib.hid (below_then L5.out hb7)
                have O7 := Lib.hid (ho.out.below hb7)
                have OS7 := Lib.hid (OS.out.below hb7)
                clear hb7
                have HW7 := Lib.hid (L7.out.size : W1.heap.size ≤ w7.heap.size)
                go_wp2_with (at_builtin; refine GR.app_one (K := sibK) rfl (.tmp 125) (.tmp 131) _ rfl Try.underlying23 hi0 hz0 hz1 hz2 rfl W1.heap.size _ acc m[k] rfl O7.out rfl HLL.out HW7.out ?_; intro v9 w9 ho9 hg9 hat9; have O9 := Lib.hid ho9; have OS9 := Lib.hid (OS7.out.grown hg9 (own_apart OS7.out O7.out (by decide))); have L9 := Lib.hid (Below.grown L7.out hg9 HW7.out (fun b hb => (O7.out.lt b hb).1)); clear ho9 hg9 hat9)
                go_roundw
                case rel => exact ⟨_, i, k + 1, acc ++ [m[k]], rfl, by omega, by omega, rfl, by go_num, Lib.hid HDD.out, by first | omega | (simp; omega), O9, OS9, L9⟩
                case measure => simp [intOf]; omega
            ·
              have ti1 : ((i : Int) == (l.length : Int)) = true := by simp; omega
              have ti2 : (i == l.length) = true := by simp; omega
              have tk1 : ((k : Int) == (m.length : Int)) = true := by simp; omega
              have tk2 : (k == m.length) = true := by simp; omega
              have HE := Lib.hid (show sjoin (cov a) (cov b) l m = acc by
                have := hD.out
                rw [List.drop_eq_nil_of_le (by omega), List.drop_eq_nil_of_le (by omega), sj_end, List.append_nil] at this
                rw [this])
              obtain ⟨Av, cv, ev, hcv, _⟩ := ho.out.rd' (by show acc.length * 40 ≤ _; have := HLL.out; omega)
              have HEV := Lib.hid ev
              clear ev
              have ev := HEV.out
              clear HEV
              subst ev
              obtain ⟨As, cs, ev, _, _⟩ := OS.out.rd' (by show (vmax a b).length * 16 ≤ _; have := HX64.out; omega)
              subst ev
              by_cases h64 : acc.length ≤ 64
              · have g0 : decide (64 < (acc.length : Int)) = false := by simp; omega
                have g1 : decide (64 < acc.length) = false := by simp; omega
                have HV := Lib.hid (join_ok H1.out H2.out HX64.out (by rw [HE.out]; exact h64))
                clear h64
                have r0 : wr.cell? ⟨w.heap.size + 1 + 1, 0, none⟩ = some (.slice none 0 0) := (XR.out.below L5.out XR.out.lt).cell 0
                have r1 : wr.cell? ⟨w.heap.size + 1 + 1, 1, none⟩ = some (.slice none 0 0) := (XR.out.below L5.out XR.out.lt).cell 1
                have r2 := (XR.out.below L5.out XR.out.lt).frozen 0
                have r3 := (XR.out.below L5.out XR.out.lt).frozen 1
                go_wp2
                try rw [Exit.noGoto_ret]
                exact bodyPost_ret (v := .tuple #[.agg #[.slice As (vmax a b).length cs, .slice Av acc.length cv], .int .i64 0]) (by simp [results, Try.results35, go_sem, r0, r1, r2, r3]) rfl ⟨_, _, ret_st HV.out.1.symm, by rw [HV.out.2.1]; exact own_set2 (OS.out.base LW.out.size) XR.out L5.out, by rw [HV.out.2.2, HE.out]; exact own_set2 (ho.out.base LW.out.size) XR.out L5.out, (by repeat (first | exact bl_then LW.out L5.out | refine bl_drewN ?_ _ | refine bl_drew ?_ | refine bl_alloc ?_ _ | refine Below.setCell ?_ (by simp; omega) _))⟩
              · have g0 : decide (64 < (acc.length : Int)) = true := by simp; omega
                have g1 : decide (64 < acc.length) = true := by simp; omega
                have HV := Lib.hid (join_big H1.out H2.out (.inr (by rw [HE.out]; omega)))
                clear h64
                have r0 : wr.cell? ⟨w.heap.size + 1 + 1, 0, none⟩ = some (.slice none 0 0) := (XR.out.below L5.out XR.out.lt).cell 0
                have r1 : wr.cell? ⟨w.heap.size + 1 + 1, 1, none⟩ = some (.slice none 0 0) := (XR.out.below L5.out XR.out.lt).cell 1
                have r2 := (XR.out.below L5.out XR.out.lt).frozen 0
                have r3 := (XR.out.below L5.out XR.out.lt).frozen 1
                go_wp2
                try rw [Exit.noGoto_ret]
                exact bodyPost_ret (v := .tuple #[.agg #[.slice none 0 0, .slice none 0 0], .int .i64 82]) (by simp [results, Try.results35, go_sem, r0, r1, r2, r3]) rfl ⟨_, _, ret_st HV.out.1.symm, by rw [HV.out.2.1]; exact GR.Own.nil _ _ _, by rw [HV.out.2.2]; exact GR.Own.nil _ _ _, (by repeat (first | exact bl_then LW.out L5.out | refine bl_drewN ?_ _ | refine bl_drew ?_ | refine bl_alloc ?_ _ | refine Below.setCell ?_ (by simp; omega) _))⟩
      · rw [hxe]
        have HV := Lib.hid (join_big H1.out H2.out (.inl hx64))
        clear hxe hx64 OS0
        have s0 : w4.cell? ⟨w.heap.size, 0, none⟩ = some (.slice A a.length c1) := (XA.out.below L4.out XA.out.lt).cell 0
        have s1 : w4.cell? ⟨w.heap.size, 1, none⟩ = some (.slice B l.length c2) := (XA.out.below L4.out XA.out.lt).cell 1
        have t0 : w4.cell? ⟨w.heap.size + 1, 0, none⟩ = some (.slice C b.length c3) := (XB.out.below L4.out XB.out.lt).cell 0
        have t1 : w4.cell? ⟨w.heap.size + 1, 1, none⟩ = some (.slice D m.length c4) := (XB.out.below L4.out XB.out.lt).cell 1
        have r0 : w4.cell? ⟨w.heap.size + 1 + 1, 0, none⟩ = some (.slice none 0 0) := (XR.out.below L4.out XR.out.lt).cell 0
        have r1 : w4.cell? ⟨w.heap.size + 1 + 1, 1, none⟩ = some (.slice none 0 0) := (XR.out.below L4.out XR.out.lt).cell 1
        have r2 := (XR.out.below L4.out XR.out.lt).frozen 0
        have r3 := (XR.out.below L4.out XR.out.lt).frozen 1
        go_wp2
        try rw [Exit.noGoto_ret]
        exact bodyPost_ret (v := .tuple #[.agg #[.slice none 0 0, .slice none 0 0], .int .i64 82]) (by simp [results, Try.results35, go_sem, r0, r1, r2, r3]) rfl ⟨_, _, ret_st HV.out.1.symm, by rw [HV.out.2.1]; exact GR.Own.nil _ _ _, by rw [HV.out.2.2]; exact GR.Own.nil _ _ _, (by repeat (first | exact bl_then LW.out L4.out | refine bl_drewN ?_ _ | refine bl_drew ?_ | refine bl_alloc ?_ _ | refine Below.setCell ?_ (by simp; omega) _))⟩
    · have h2' : staB b m = false := by simpa using h2
      have HV := Lib.hid (join_bad (a := a) (l := l) (.inr h2'))
      refine (dvvValid_any _ _ _ _ b m _ (HB.out.below (bl_then LW.out L2.out)) (HM.out.below (bl_then LW.out L2.out)) NB.out NM.out).mono ?_
      rintro e w3 ⟨rfl, L3_⟩
      rw [h2']
      have L3 := Lib.hid (bl_then L2.out L3_)
      clear L3_ h1 h2 s0 s1 t0 t1 L2
      have s0 : w3.cell? ⟨w.heap.size, 0, none⟩ = some (.slice A a.length c1) := (XA.out.below L3.out XA.out.lt).cell 0
      have s1 : w3.cell? ⟨w.heap.size, 1, none⟩ = some (.slice B l.length c2) := (XA.out.below L3.out XA.out.lt).cell 1
      have t0 : w3.cell? ⟨w.heap.size + 1, 0, none⟩ = some (.slice C b.length c3) := (XB.out.below L3.out XB.out.lt).cell 0
      have t1 : w3.cell? ⟨w.heap.size + 1, 1, none⟩ = some (.slice D m.length c4) := (XB.out.below L3.out XB.out.lt).cell 1
      have r0 : w3.cell? ⟨w.heap.size + 1 + 1, 0, none⟩ = some (.slice none 0 0) := (XR.out.below L3.out XR.out.lt).cell 0
      have r1 : w3.cell? ⟨w.heap.size + 1 + 1, 1, none⟩ = some (.slice none 0 0) := (XR.out.below L3.out XR.out.lt).cell 1
      have r2 := (XR.out.below L3.out XR.out.lt).frozen 0
      have r3 := (XR.out.below L3.out XR.out.lt).frozen 1
      go_wp2
      try rw [Exit.noGoto_ret]
      exact bodyPost_ret (v := .tuple #[.agg #[.slice none 0 0, .slice none 0 0], .int .i64 110]) (by simp [results, Try.results35, go_sem, r0, r1, r2, r3]) rfl ⟨_, _, ret_st HV.out.1.symm, by rw [HV.out.2.1]; exact GR.Own.nil _ _ _, by rw [HV.out.2.2]; exact GR.Own.nil _ _ _, (by repeat (first | exact bl_then LW.out L3.out | refine bl_drewN ?_ _ | refine bl_drew ?_ | refine bl_alloc ?_ _ | refine Below.setCell ?_ (by simp; omega) _))⟩
  · have h1' : staB a l = false := by simpa using h1
    have HV := Lib.hid (join_bad (b := b) (m := m) (.inl h1'))
    refine (dvvValid_any _ _ _ _ a l _ (HA.out.below LW.out) (HL.out.below LW.out) NA.out NL.out).mono ?_
    rintro e w2 ⟨rfl, L2_⟩
    rw [h1']
    have L2 := Lib.hid L2_
    clear L2_ h1
    have s0 : w2.cell? ⟨w.heap.size, 0, none⟩ = some (.slice A a.length c1) := (XA.out.below L2.out XA.out.lt).cell 0
    have s1 : w2.cell? ⟨w.heap.size, 1, none⟩ = some (.slice B l.length c2) := (XA.out.below L2.out XA.out.lt).cell 1
    have t0 : w2.cell? ⟨w.heap.size + 1, 0, none⟩ = some (.slice C b.length c3) := (XB.out.below L2.out XB.out.lt).cell 0
    have t1 : w2.cell? ⟨w.heap.size + 1, 1, none⟩ = some (.slice D m.length c4) := (XB.out.below L2.out XB.out.lt).cell 1
    have r0 : w2.cell? ⟨w.heap.size + 1 + 1, 0, none⟩ = some (.slice none 0 0) := (XR.out.below L2.out XR.out.lt).cell 0
    have r1 : w2.cell? ⟨w.heap.size + 1 + 1, 1, none⟩ = some (.slice none 0 0) := (XR.out.below L2.out XR.out.lt).cell 1
    have r2 := (XR.out.below L2.out XR.out.lt).frozen 0
    have r3 := (XR.out.below L2.out XR.out.lt).frozen 1
    go_wp2
    try rw [Exit.noGoto_ret]
    exact bodyPost_ret (v := .tuple #[.agg #[.slice none 0 0, .slice none 0 0], .int .i64 110]) (by simp [results, Try.results35, go_sem, r0, r1, r2, r3]) rfl ⟨_, _, ret_st HV.out.1.symm, by rw [HV.out.2.1]; exact GR.Own.nil _ _ _, by rw [HV.out.2.2]; exact GR.Own.nil _ _ _, (by repeat (first | exact bl_then LW.out L2.out | refine bl_drewN ?_ _ | refine bl_drew ?_ | refine bl_alloc ?_ _ | refine Below.setCell ?_ (by simp; omega) _))⟩
end Go.Proofs.Ytljfigikkajlnaa
