/- DERIVED. SketchSums: the walk of the law. -/
import Derived.Test.YtpklkjekkbpeoaaSkOf
namespace Go.Proofs.Ytpklkjekkbpeoaa
open Go.RowKit
set_option linter.unusedVariables false
set_option linter.unusedSimpArgs false
attribute [local irreducible] mixN arrW arrB

theorem times_n (A : Option Addr) (n c : Nat) (l : List Ent) (x : Ent) (w : World) (hl : GR.Rd entK w A l) (hn : n = l.length) :
    Calls Try.prog 24 #[.slice A n c, .agg #[.string x.key, .string x.sum]] w fun e w' => e = .returned (.int .i64 ((l.count x : Nat) : Int)) ∧ Below w.heap.size w w' := by
  subst hn
  exact times_any A c l x w hl
theorem slice_from (ad : Addr) (n c k : Nat) (hk : k ≤ n) (hc : ¬ c = k) (u : World) :
    (Instr.sliceAt 46 (.slice (some ad) n c) (some (.int .i64 (k : Int))) none none).run Try.prog u = .ok (.slice (some (ad.add (k * 2))) (n - k) (c - k)) u := by
  have he : Try.prog.elem 46 = 23 := by kernel_rfl
  have hs : (sizeOf 23).run Try.prog u = .ok 2 u := by
    obtain ⟨i0, hi0, hz0, hz1, hz2⟩ := info_parts entry_info
    simp [sizeOf, typeInfo, hi0, hz1]
  rw [run_sliceAt_slice (h := by rw [he]; exact Try.underlying46), run_slice_l (ht := by rw [he]; exact Try.underlying46) (h0 := by omega) (h1 := by omega), he, hs]
  simp only [Result.andThen, sliced, Int.toNat_natCast, if_neg hc, Option.map_some]
theorem exc_yes {l r : List Ent} {x : Ent} (h : l.count x < (x :: r).count x) (b : BitVec 16) (L : List Cel) : layC (itemP x) b (layAll b L ((exc l r).reverse.map itemP)) = layAll b L ((exc l (x :: r)).reverse.map itemP) := by
  rw [show exc l (x :: r) = x :: exc l r from by rw [exc, if_pos h], List.reverse_cons, List.map_append]
  show _ = layAll b L ((exc l r).reverse.map itemP ++ [itemP x])
  rw [layAll_snoc]
theorem exc_no {l r : List Ent} {x : Ent} (h : ¬ l.count x < (x :: r).count x) (b : BitVec 16) (L : List Cel) : layAll b L ((exc l r).reverse.map itemP) = layAll b L ((exc l (x :: r)).reverse.map itemP) := by
  rw [show exc l (x :: r) = exc l r from by rw [exc, if_neg h]]
theorem exc_nil (m : List Ent) (b : BitVec 16) (L : List Cel) : layAll b L ((exc m []).reverse.map itemP) = L := rfl
theorem drop_here {m : List Ent} {k : Nat} (h : k < m.length) : m.drop k = m[k] :: m.drop (k + 1) := List.drop_eq_getElem_cons h
theorem all_len (b : BitVec 16) (n : Nat) (l : List It) : (layAll b (zL n) l).length = n := by rw [layAll_length, zL_length]
set_option maxRecDepth 100000 in
set_option maxHeartbeats 102400000 in
theorem sums_walk (A1 : Option Addr) (c1 : Nat) (l : List Ent) (A2 : Option Addr) (c2 : Nat) (m : List Ent) (cells : Int) (w : World) (hl : GR.Rd entK w A1 l) (hm : GR.Rd entK w A2 m) (hcl : l.length ≤ c1) (hcm : m.length ≤ c2)
    (hsl : ∀ e ∈ l, e.key.size ≤ 1048576 ∧ e.sum.size ≤ 1048576) (hsm : ∀ e ∈ m, e.key.size ≤ 1048576 ∧ e.sum.size ≤ 1048576) (bl : l.length ≤ 1048576) (bm : m.length ≤ 1048576) :
    Calls Try.prog 7 #[.slice A1 l.length c1, .slice A2 m.length c2, .int .i64 cells] w fun e w' => e = .returned (.bool true) ∧ Below w.heap.size w w' := by
  obtain ⟨i0, hi0, hz0, hz1, hz2⟩ := info_parts entry_info
  have HL := Lib.hid hl
  have HM := Lib.hid hm
  have HCL := Lib.hid hcl
  have HCM := Lib.hid hcm
  have HSL := Lib.hid hsl
  have HSM := Lib.hid hsm
  clear hl hm hcl hcm hsl hsm
  have hcase : (cells < 3 ∨ (¬ cells < 3 ∧ 256 < cells)) ∨ (¬ cells < 3 ∧ ¬ 256 < cells) := by omega
  rcases hcase with (h | ⟨h, h'⟩) | ⟨h, h'⟩
  · skip
    go_enter Try.func7, Try.ntmps7
    go_upto_region 5 with (go_at_call 18; refine (works_any w).mono ?_; rintro e w1 ⟨rfl, hb⟩; have B1 := Lib.hid hb; clear hb)
    go_wp2_with (at_builtin; refine GR.app_twin (K := entK) rfl (.tmp 26) (.tmp 27) _ rfl Try.underlying46 hi0 hz0 hz1 hz2 rfl rfl A1 l.length c1 l rfl rfl (HL.out.below B1.out) (by show l.length * 32 ≤ _; omega) ?_; intro v2 w2 ho2 hb2; have B2 := Lib.hid (bl_then B1.out hb2); obtain ⟨A3, c3', rfl, _, hr2⟩ := ho2.rd' (by show l.length * 32 ≤ _; omega); have R2 := Lib.hid hr2; clear ho2 hb2 hr2)
    refine (of_sk A3 c3' l 30 (by omega) (by omega) w2 R2.out HSL.out).mono ?_
    rintro e w3 ⟨⟨g1, rfl, hg1, c5, e5, hs⟩, hb⟩
    have S3 := Lib.hid hs
    have B3 := Lib.hid (bl_then B2.out hb)
    clear hs hb B1 B2 R2
    go_wp2_with (at_builtin; refine GR.app_twin (K := entK) rfl (.tmp 34) (.tmp 35) _ rfl Try.underlying46 hi0 hz0 hz1 hz2 rfl rfl A2 m.length c2 m rfl rfl (HM.out.below B3.out) (by show m.length * 32 ≤ _; omega) ?_; intro v4 w4 ho4 hb4; have B4 := Lib.hid (bl_then B3.out hb4); have S4 := Lib.hid (S3.out.below hb4); obtain ⟨A4, c4', rfl, _, hr4⟩ := ho4.rd' (by show m.length * 32 ≤ _; omega); have R4 := Lib.hid hr4; clear ho4 hb4 hr4)
    refine (of_sk A4 c4' m 30 (by omega) (by omega) w4 R4.out HSM.out).mono ?_
    rintro e w5 ⟨⟨g2, rfl, hg2, c6, e6, hs⟩, hb⟩
    have T5 := Lib.hid hs
    have S5 := Lib.hid (S4.out.below hb)
    have B5 := Lib.hid (bl_then B4.out hb)
    clear hs hb B3 B4 R4 S3 S4
    go_wp2_with fail
    refine (newS_any 30 (by omega) (by omega) w5).mono ?_
    rintro e w6 ⟨⟨g3, rfl, hg3, c3, e3, hs⟩, hb⟩
    have D6 := Lib.hid hs
    have S6 := Lib.hid (S5.out.below hb)
    have T6 := Lib.hid (T5.out.below hb)
    have B6 := Lib.hid (bl_then B5.out hb)
    have hw5 := B5.out.size
    clear hs hb S5 T5 B5
    go_wp2_with fail
    refine (minus_any _ g1 c5 e5 _ g2 c6 e6 _ _ w6 S6.out T6.out (by rw [all_len, all_len])).mono ?_
    rintro e w7 ⟨⟨g4, rfl, hg4, c4, e4, hs⟩, hb⟩
    obtain ⟨U, hU⟩ : ∃ U, U = addL (layAll 1 (zL 30) (l.map itemP)) (negL (layAll 1 (zL 30) (m.map itemP))) := ⟨_, rfl⟩
    rw [← hU] at hs
    have HU := Lib.hid (show U = layAll 1 (layAll (-1) (zL 30) ((exc l m).reverse.map itemP)) ((exc m l).reverse.map itemP) from hU.trans (sums_law itemP 30 l m))
    clear hU
    have D7 := Lib.hid (D6.out.below hb)
    have U7 := Lib.hid hs
    have B7 := Lib.hid (bl_then B6.out hb)
    obtain ⟨BD, hBD⟩ : ∃ BD, BD = w5.heap.size := ⟨_, rfl⟩
    obtain ⟨BU, hBU⟩ : ∃ BU, BU = w6.heap.size := ⟨_, rfl⟩
    have nn1 : c4 ≠ c3 := by have := D6.out.clt; have := U7.out.clt; omega
    have nn2 : g4 ≠ c3 := by have := D6.out.clt; omega
    rw [← hBD] at D7 hw5
    rw [← hBU] at U7
    have qd : w.heap.size ≤ BD := hw5
    have SD := D7
    have SU := U7
    have BZ := B7
    have e9 : wrap64 ((m.length : Int) - 1) = (m.length : Int) - 1 := by unfold wrap64; omega
    clear hs hb S6 T6 D6 B6 hBD hBU hw5 D7 U7 B7 hg1 hg2 hg3 hg4
    go_wp2_with fail
    go_loopw [15] (fun i w' => ∃ k : Nat, k ≤ m.length ∧ i = .int .i64 ((k : Int) - 1) ∧ Hid (Skt w' BD g3 c3 e3 (layAll (-1) (zL 30) ((exc l (m.drop k)).reverse.map itemP))) ∧ Hid (Skt w' BU g4 c4 e4 U) ∧ Hid (Below w.heap.size w w')) (fun i _ => (intOf i + 1).toNat)
    case atStart => exact ⟨m.length, Nat.le_refl _, rfl, by rw [List.drop_length, exc_nil]; exact SD, SU, BZ⟩
    case round =>
      obtain ⟨W15, hw_⟩ : ∃ x : World, x = wr := ⟨_, rfl⟩
      subst hw_
      obtain ⟨k, hk, rfl, sd, su, bb⟩ := hrel
      rcases k with _ | k
      · skip
        rw [List.drop_zero] at sd
        rw [show (((0 : Nat) : Int) - 1) = -1 from rfl]
        have e0 : wrap64 ((l.length : Int) - 1) = (l.length : Int) - 1 := by unfold wrap64; omega
        go_wp2_with fail
        go_loopw [16] (fun i w' => ∃ k : Nat, k ≤ l.length ∧ i = .int .i64 ((k : Int) - 1) ∧ Hid (Skt w' BD g3 c3 e3 (layAll 1 (layAll (-1) (zL 30) ((exc l m).reverse.map itemP)) ((exc m (l.drop k)).reverse.map itemP))) ∧ Hid (Skt w' BU g4 c4 e4 U) ∧ Hid (Below w.heap.size w w')) (fun i _ => (intOf i + 1).toNat)
        case atStart => exact ⟨l.length, Nat.le_refl _, rfl, by rw [List.drop_length, exc_nil]; exact sd, su, bb⟩
        case round =>
          obtain ⟨W16, hw_⟩ : ∃ x : World, x = wr := ⟨_, rfl⟩
          subst hw_
          obtain ⟨k, hk, rfl, sd, su, bb⟩ := hrel
          rcases k with _ | k
          · skip
            have hcU := cells_any _ g4 c4 e4 U W16 su.out
            rw [List.drop_zero, ← HU.out] at sd
            go_wp2_with fail
            refine (hcU).mono ?_
            rintro e w8 ⟨dU, fU, rfl, oU, hb⟩
            have OU := Lib.hid oU
            have sd8 := Lib.hid (sd.out.below hb)
            have bb8 := Lib.hid (bl_then bb.out hb)
            clear hb oU hcU
            have hcD := cells_any _ g3 c3 e3 _ w8 sd8.out
            go_wp2_with fail
            refine (hcD).mono ?_
            rintro e w9 ⟨dD, fD, rfl, oD, hb⟩
            have OU9 := Lib.hid (OU.out.below hb)
            have OD9 := Lib.hid oD
            have bb9 := Lib.hid (bl_then bb8.out hb)
            clear hb oD hcD
            have hsm := sameCells_any (some ⟨dU, 0, none⟩) (some ⟨dD, 0, none⟩) fU fD U U w9 (OU9.out.rd (by show U.length * 24 ≤ _; have := su.out.n2; omega)).2.2 (OD9.out.rd (by show U.length * 24 ≤ _; have := su.out.n2; omega)).2.2
            rw [show decide (U = U) = true from by simp] at hsm
            go_wp2_with (go_at_call 22; refine (hsm).mono ?_; rintro e w10 ⟨rfl, hb⟩; have bb10 := Lib.hid (bl_then bb9.out hb); clear hb)
            go_ret
            exact ⟨rfl, bb10.out⟩
          · have hlt : k < l.length := by omega
            rw [show (((k + 1 : Nat) : Int) - 1) = (k : Int) from by omega]
            have i0 : (0 : Int) ≤ (k : Int) := by omega
            have i1 : (k : Int) < (l.length : Int) := by omega
            obtain ⟨ad, rfl, a0, a1⟩ := ent_at (HL.out.below bb.out) k hlt
            have hsl := slice_from ad l.length c1 k (by omega) (by have := HCL.out; omega)
            obtain ⟨x, hx⟩ : ∃ x, x = l[k] := ⟨_, rfl⟩
            rw [← hx] at a0 a1
            have hdr := drop_here hlt
            rw [← hx] at hdr
            have HX := Lib.hid (HSL.out x (by rw [hx]; exact List.getElem_mem _))
            have HD := Lib.hid hdr
            clear hdr hx
            have RM := Lib.hid ((HL.out.below bb.out).drop k c1 HCL.out (by omega) (ad.add (k * 2)) (fun _ => rfl))
            have RL := Lib.hid (HM.out.below bb.out)
            rw [HD.out] at RM
            have d0 := over_cell a0
            have d1 := over_cell a1
            have hlen : l.length - k = (x :: l.drop (k + 1)).length := by rw [← HD.out, List.length_drop]
            have HLN := Lib.hid hlen
            clear hlen
            obtain ⟨qn, hqn⟩ : ∃ qn, qn = l.length - k := ⟨_, rfl⟩
            obtain ⟨qc, hqc⟩ : ∃ qc, qc = c1 - k := ⟨_, rfl⟩
            rw [← hqn, ← hqc] at hsl
            rw [← hqn] at HLN
            clear hqn hqc
            obtain ⟨n1, hn1⟩ : ∃ n1, n1 = m.count x := ⟨_, rfl⟩
            obtain ⟨n2, hn2⟩ : ∃ n2, n2 = (x :: l.drop (k + 1)).count x := ⟨_, rfl⟩
            have T1 := Lib.hid (show ∀ (q : Over W16), Calls Try.prog 24 #[.slice (some (ad.add (k * 2))) qn qc, .agg #[.string x.key, .string x.sum]] q.w fun e w' => e = .returned (.int .i64 (n2 : Int)) ∧ Below q.w.heap.size q.w w' from fun q => by rw [hn2]; exact times_n _ _ _ _ x q.w (RM.out.below q.h) HLN.out)
            have T2 := Lib.hid (show ∀ (q : Over W16), Calls Try.prog 24 #[.slice A2 m.length c2, .agg #[.string x.key, .string x.sum]] q.w fun e w' => e = .returned (.int .i64 (n1 : Int)) ∧ Below q.w.heap.size q.w w' from fun q => by rw [hn1]; exact times_any _ _ _ x q.w (RL.out.below q.h))
            by_cases hcmp : n1 < n2
            · have r1 : (n1 : Int) < (n2 : Int) := by omega
              have r2 : decide (n1 < n2) = true := decide_eq_true hcmp
              have r3 : decide ((n1 : Int) < (n2 : Int)) = true := decide_eq_true r1
              have HCM := Lib.hid (show m.count x < (x :: l.drop (k + 1)).count x by omega)
              clear hcmp hn1 hn2
              go_upto_region 21 with fail
              refine over_region (W := W16) (by kernel_rfl) (by kernel_rfl) (by repeat (first | exact Below.refl _ _ | refine bl_drewN ?_ _ | refine bl_drew ?_ | refine bl_alloc ?_ _)) ?_
              repeat (go_big_quiet_step (first | with_reducible exact over_of (T1.out _) | with_reducible exact over_of (T2.out _)))
              refine wpQuiet_nil ?_
              intro _ hx_
              obtain ⟨x_, hx_⟩ := hx_
              subst hx_
              obtain ⟨w5, hb5⟩ := x_
              dsimp only
              have sd5 := Lib.hid (sd.out.below hb5)
              have su5 := Lib.hid (su.out.below hb5)
              have bb5 := Lib.hid (bl_then bb.out hb5)
              have a0' := over_at d0 w5 hb5
              have a1' := over_at d1 w5 hb5
              clear hb5 d0 d1 a0 a1 T1 T2
              go_wp2_with fail
              refine (itemS_any x HX.out w5).mono ?_
              rintro e w6 ⟨rfl, hb6⟩
              have sd6 := Lib.hid (sd5.out.below hb6)
              have su6 := Lib.hid (su5.out.below hb6)
              have bb6 := Lib.hid (bl_then bb5.out hb6)
              clear hb6 a0' a1'
              have ha := add_s (itemP x) sd6.out
              rw [exc_yes HCM.out] at ha
              go_wp2_with (go_at_call 12; refine (ha).mono ?_; rintro e w7 ⟨rfl, hs, hg⟩; have sd7 := Lib.hid hs; have su7 := Lib.hid (su6.out.far hg nn1 nn2); have bb7 := Lib.hid (bl_laid bb6.out sd6.out qd hg); clear hs hg)
              go_roundw
              case rel => exact ⟨k, by omega, by go_num, by rw [HD.out]; exact sd7, su7, bb7⟩
              case measure => simp [intOf]
            · have r1 : ¬ (n1 : Int) < (n2 : Int) := by omega
              have r2 : decide (n1 < n2) = false := decide_eq_false hcmp
              have r3 : decide ((n1 : Int) < (n2 : Int)) = false := decide_eq_false r1
              have HCM := Lib.hid (show ¬ m.count x < (x :: l.drop (k + 1)).count x by omega)
              clear hcmp hn1 hn2
              go_upto_region 21 with fail
              refine over_region (W := W16) (by kernel_rfl) (by kernel_rfl) (by repeat (first | exact Below.refl _ _ | refine bl_drewN ?_ _ | refine bl_drew ?_ | refine bl_alloc ?_ _)) ?_
              repeat (go_big_quiet_step (first | with_reducible exact over_of (T1.out _) | with_reducible exact over_of (T2.out _)))
              refine wpQuiet_nil ?_
              intro _ hx_
              obtain ⟨x_, hx_⟩ := hx_
              subst hx_
              obtain ⟨w5, hb5⟩ := x_
              dsimp only
              have sd5 := Lib.hid (sd.out.below hb5)
              have su5 := Lib.hid (su.out.below hb5)
              have bb5 := Lib.hid (bl_then bb.out hb5)
              clear hb5 d0 d1 a0 a1 T1 T2
              rw [exc_no HCM.out] at sd5
              go_wp2
              go_roundw
              case rel => exact ⟨k, by omega, by go_num, by rw [HD.out]; exact sd5, su5, bb5⟩
              case measure => simp [intOf]
      · have hlt : k < m.length := by omega
        rw [show (((k + 1 : Nat) : Int) - 1) = (k : Int) from by omega]
        have i0 : (0 : Int) ≤ (k : Int) := by omega
        have i1 : (k : Int) < (m.length : Int) := by omega
        obtain ⟨ad, rfl, a0, a1⟩ := ent_at (HM.out.below bb.out) k hlt
        have hsl := slice_from ad m.length c2 k (by omega) (by have := HCM.out; omega)
        obtain ⟨x, hx⟩ : ∃ x, x = m[k] := ⟨_, rfl⟩
        rw [← hx] at a0 a1
        have hdr := drop_here hlt
        rw [← hx] at hdr
        have HX := Lib.hid (HSM.out x (by rw [hx]; exact List.getElem_mem _))
        have HD := Lib.hid hdr
        clear hdr hx
        have RM := Lib.hid ((HM.out.below bb.out).drop k c2 HCM.out (by omega) (ad.add (k * 2)) (fun _ => rfl))
        have RL := Lib.hid (HL.out.below bb.out)
        rw [HD.out] at RM
        have d0 := over_cell a0
        have d1 := over_cell a1
        have hlen : m.length - k = (x :: m.drop (k + 1)).length := by rw [← HD.out, List.length_drop]
        have HLN := Lib.hid hlen
        clear hlen
        obtain ⟨qn, hqn⟩ : ∃ qn, qn = m.length - k := ⟨_, rfl⟩
        obtain ⟨qc, hqc⟩ : ∃ qc, qc = c2 - k := ⟨_, rfl⟩
        rw [← hqn, ← hqc] at hsl
        rw [← hqn] at HLN
        clear hqn hqc
        obtain ⟨n1, hn1⟩ : ∃ n1, n1 = l.count x := ⟨_, rfl⟩
        obtain ⟨n2, hn2⟩ : ∃ n2, n2 = (x :: m.drop (k + 1)).count x := ⟨_, rfl⟩
        have T1 := Lib.hid (show ∀ (q : Over W15), Calls Try.prog 24 #[.slice (some (ad.add (k * 2))) qn qc, .agg #[.string x.key, .string x.sum]] q.w fun e w' => e = .returned (.int .i64 (n2 : Int)) ∧ Below q.w.heap.size q.w w' from fun q => by rw [hn2]; exact times_n _ _ _ _ x q.w (RM.out.below q.h) HLN.out)
        have T2 := Lib.hid (show ∀ (q : Over W15), Calls Try.prog 24 #[.slice A1 l.length c1, .agg #[.string x.key, .string x.sum]] q.w fun e w' => e = .returned (.int .i64 (n1 : Int)) ∧ Below q.w.heap.size q.w w' from fun q => by rw [hn1]; exact times_any _ _ _ x q.w (RL.out.below q.h))
        by_cases hcmp : n1 < n2
        · have r1 : (n1 : Int) < (n2 : Int) := by omega
          have r2 : decide (n1 < n2) = true := decide_eq_true hcmp
          have r3 : decide ((n1 : Int) < (n2 : Int)) = true := decide_eq_true r1
          have HCM := Lib.hid (show l.count x < (x :: m.drop (k + 1)).count x by omega)
          clear hcmp hn1 hn2
          go_upto_region 16 with fail
          refine over_region (W := W15) (by kernel_rfl) (by kernel_rfl) (by repeat (first | exact Below.refl _ _ | refine bl_drewN ?_ _ | refine bl_drew ?_ | refine bl_alloc ?_ _)) ?_
          repeat (go_big_quiet_step (first | with_reducible exact over_of (T1.out _) | with_reducible exact over_of (T2.out _)))
          refine wpQuiet_nil ?_
          intro _ hx_
          obtain ⟨x_, hx_⟩ := hx_
          subst hx_
          obtain ⟨w5, hb5⟩ := x_
          dsimp only
          have sd5 := Lib.hid (sd.out.below hb5)
          have su5 := Lib.hid (su.out.below hb5)
          have bb5 := Lib.hid (bl_then bb.out hb5)
          have a0' := over_at d0 w5 hb5
          have a1' := over_at d1 w5 hb5
          clear hb5 d0 d1 a0 a1 T1 T2
          go_wp2_with fail
          refine (itemS_any x HX.out w5).mono ?_
          rintro e w6 ⟨rfl, hb6⟩
          have sd6 := Lib.hid (sd5.out.below hb6)
          have su6 := Lib.hid (su5.out.below hb6)
          have bb6 := Lib.hid (bl_then bb5.out hb6)
          clear hb6 a0' a1'
          have ha := take_s (itemP x) sd6.out
          rw [exc_yes HCM.out] at ha
          go_wp2_with (go_at_call 13; refine (ha).mono ?_; rintro e w7 ⟨rfl, hs, hg⟩; have sd7 := Lib.hid hs; have su7 := Lib.hid (su6.out.far hg nn1 nn2); have bb7 := Lib.hid (bl_laid bb6.out sd6.out qd hg); clear hs hg)
          go_roundw
          case rel => exact ⟨k, by omega, by go_num, by rw [HD.out]; exact sd7, su7, bb7⟩
          case measure => simp [intOf]
        · have r1 : ¬ (n1 : Int) < (n2 : Int) := by omega
          have r2 : decide (n1 < n2) = false := decide_eq_false hcmp
          have r3 : decide ((n1 : Int) < (n2 : Int)) = false := decide_eq_false r1
          have HCM := Lib.hid (show ¬ l.count x < (x :: m.drop (k + 1)).count x by omega)
          clear hcmp hn1 hn2
          go_upto_region 16 with fail
          refine over_region (W := W15) (by kernel_rfl) (by kernel_rfl) (by repeat (first | exact Below.refl _ _ | refine bl_drewN ?_ _ | refine bl_drew ?_ | refine bl_alloc ?_ _)) ?_
          repeat (go_big_quiet_step (first | with_reducible exact over_of (T1.out _) | with_reducible exact over_of (T2.out _)))
          refine wpQuiet_nil ?_
          intro _ hx_
          obtain ⟨x_, hx_⟩ := hx_
          subst hx_
          obtain ⟨w5, hb5⟩ := x_
          dsimp only
          have sd5 := Lib.hid (sd.out.below hb5)
          have su5 := Lib.hid (su.out.below hb5)
          have bb5 := Lib.hid (bl_then bb.out hb5)
          clear hb5 d0 d1 a0 a1 T1 T2
          rw [exc_no HCM.out] at sd5
          go_wp2
          go_roundw
          case rel => exact ⟨k, by omega, by go_num, by rw [HD.out]; exact sd5, su5, bb5⟩
          case measure => simp [intOf]
  · skip
    go_enter Try.func7, Try.ntmps7
    go_upto_region 5 with (go_at_call 18; refine (works_any w).mono ?_; rintro e w1 ⟨rfl, hb⟩; have B1 := Lib.hid hb; clear hb)
    go_wp2_with (at_builtin; refine GR.app_twin (K := entK) rfl (.tmp 26) (.tmp 27) _ rfl Try.underlying46 hi0 hz0 hz1 hz2 rfl rfl A1 l.length c1 l rfl rfl (HL.out.below B1.out) (by show l.length * 32 ≤ _; omega) ?_; intro v2 w2 ho2 hb2; have B2 := Lib.hid (bl_then B1.out hb2); obtain ⟨A3, c3', rfl, _, hr2⟩ := ho2.rd' (by show l.length * 32 ≤ _; omega); have R2 := Lib.hid hr2; clear ho2 hb2 hr2)
    refine (of_sk A3 c3' l 30 (by omega) (by omega) w2 R2.out HSL.out).mono ?_
    rintro e w3 ⟨⟨g1, rfl, hg1, c5, e5, hs⟩, hb⟩
    have S3 := Lib.hid hs
    have B3 := Lib.hid (bl_then B2.out hb)
    clear hs hb B1 B2 R2
    go_wp2_with (at_builtin; refine GR.app_twin (K := entK) rfl (.tmp 34) (.tmp 35) _ rfl Try.underlying46 hi0 hz0 hz1 hz2 rfl rfl A2 m.length c2 m rfl rfl (HM.out.below B3.out) (by show m.length * 32 ≤ _; omega) ?_; intro v4 w4 ho4 hb4; have B4 := Lib.hid (bl_then B3.out hb4); have S4 := Lib.hid (S3.out.below hb4); obtain ⟨A4, c4', rfl, _, hr4⟩ := ho4.rd' (by show m.length * 32 ≤ _; omega); have R4 := Lib.hid hr4; clear ho4 hb4 hr4)
    refine (of_sk A4 c4' m 30 (by omega) (by omega) w4 R4.out HSM.out).mono ?_
    rintro e w5 ⟨⟨g2, rfl, hg2, c6, e6, hs⟩, hb⟩
    have T5 := Lib.hid hs
    have S5 := Lib.hid (S4.out.below hb)
    have B5 := Lib.hid (bl_then B4.out hb)
    clear hs hb B3 B4 R4 S3 S4
    go_wp2_with fail
    refine (newS_any 30 (by omega) (by omega) w5).mono ?_
    rintro e w6 ⟨⟨g3, rfl, hg3, c3, e3, hs⟩, hb⟩
    have D6 := Lib.hid hs
    have S6 := Lib.hid (S5.out.below hb)
    have T6 := Lib.hid (T5.out.below hb)
    have B6 := Lib.hid (bl_then B5.out hb)
    have hw5 := B5.out.size
    clear hs hb S5 T5 B5
    go_wp2_with fail
    refine (minus_any _ g1 c5 e5 _ g2 c6 e6 _ _ w6 S6.out T6.out (by rw [all_len, all_len])).mono ?_
    rintro e w7 ⟨⟨g4, rfl, hg4, c4, e4, hs⟩, hb⟩
    obtain ⟨U, hU⟩ : ∃ U, U = addL (layAll 1 (zL 30) (l.map itemP)) (negL (layAll 1 (zL 30) (m.map itemP))) := ⟨_, rfl⟩
    rw [← hU] at hs
    have HU := Lib.hid (show U = layAll 1 (layAll (-1) (zL 30) ((exc l m).reverse.map itemP)) ((exc m l).reverse.map itemP) from hU.trans (sums_law itemP 30 l m))
    clear hU
    have D7 := Lib.hid (D6.out.below hb)
    have U7 := Lib.hid hs
    have B7 := Lib.hid (bl_then B6.out hb)
    obtain ⟨BD, hBD⟩ : ∃ BD, BD = w5.heap.size := ⟨_, rfl⟩
    obtain ⟨BU, hBU⟩ : ∃ BU, BU = w6.heap.size := ⟨_, rfl⟩
    have nn1 : c4 ≠ c3 := by have := D6.out.clt; have := U7.out.clt; omega
    have nn2 : g4 ≠ c3 := by have := D6.out.clt; omega
    rw [← hBD] at D7 hw5
    rw [← hBU] at U7
    have qd : w.heap.size ≤ BD := hw5
    have SD := D7
    have SU := U7
    have BZ := B7
    have e9 : wrap64 ((m.length : Int) - 1) = (m.length : Int) - 1 := by unfold wrap64; omega
    clear hs hb S6 T6 D6 B6 hBD hBU hw5 D7 U7 B7 hg1 hg2 hg3 hg4
    go_wp2_with fail
    go_loopw [15] (fun i w' => ∃ k : Nat, k ≤ m.length ∧ i = .int .i64 ((k : Int) - 1) ∧ Hid (Skt w' BD g3 c3 e3 (layAll (-1) (zL 30) ((exc l (m.drop k)).reverse.map itemP))) ∧ Hid (Skt w' BU g4 c4 e4 U) ∧ Hid (Below w.heap.size w w')) (fun i _ => (intOf i + 1).toNat)
    case atStart => exact ⟨m.length, Nat.le_refl _, rfl, by rw [List.drop_length, exc_nil]; exact SD, SU, BZ⟩
    case round =>
      obtain ⟨W15, hw_⟩ : ∃ x : World, x = wr := ⟨_, rfl⟩
      subst hw_
      obtain ⟨k, hk, rfl, sd, su, bb⟩ := hrel
      rcases k with _ | k
      · skip
        rw [List.drop_zero] at sd
        rw [show (((0 : Nat) : Int) - 1) = -1 from rfl]
        have e0 : wrap64 ((l.length : Int) - 1) = (l.length : Int) - 1 := by unfold wrap64; omega
        go_wp2_with fail
        go_loopw [16] (fun i w' => ∃ k : Nat, k ≤ l.length ∧ i = .int .i64 ((k : Int) - 1) ∧ Hid (Skt w' BD g3 c3 e3 (layAll 1 (layAll (-1) (zL 30) ((exc l m).reverse.map itemP)) ((exc m (l.drop k)).reverse.map itemP))) ∧ Hid (Skt w' BU g4 c4 e4 U) ∧ Hid (Below w.heap.size w w')) (fun i _ => (intOf i + 1).toNat)
        case atStart => exact ⟨l.length, Nat.le_refl _, rfl, by rw [List.drop_length, exc_nil]; exact sd, su, bb⟩
        case round =>
          obtain ⟨W16, hw_⟩ : ∃ x : World, x = wr := ⟨_, rfl⟩
          subst hw_
          obtain ⟨k, hk, rfl, sd, su, bb⟩ := hrel
          rcases k with _ | k
          · skip
            have hcU := cells_any _ g4 c4 e4 U W16 su.out
            rw [List.drop_zero, ← HU.out] at sd
            go_wp2_with fail
            refine (hcU).mono ?_
            rintro e w8 ⟨dU, fU, rfl, oU, hb⟩
            have OU := Lib.hid oU
            have sd8 := Lib.hid (sd.out.below hb)
            have bb8 := Lib.hid (bl_then bb.out hb)
            clear hb oU hcU
            have hcD := cells_any _ g3 c3 e3 _ w8 sd8.out
            go_wp2_with fail
            refine (hcD).mono ?_
            rintro e w9 ⟨dD, fD, rfl, oD, hb⟩
            have OU9 := Lib.hid (OU.out.below hb)
            have OD9 := Lib.hid oD
            have bb9 := Lib.hid (bl_then bb8.out hb)
            clear hb oD hcD
            have hsm := sameCells_any (some ⟨dU, 0, none⟩) (some ⟨dD, 0, none⟩) fU fD U U w9 (OU9.out.rd (by show U.length * 24 ≤ _; have := su.out.n2; omega)).2.2 (OD9.out.rd (by show U.length * 24 ≤ _; have := su.out.n2; omega)).2.2
            rw [show decide (U = U) = true from by simp] at hsm
            go_wp2_with (go_at_call 22; refine (hsm).mono ?_; rintro e w10 ⟨rfl, hb⟩; have bb10 := Lib.hid (bl_then bb9.out hb); clear hb)
            go_ret
            exact ⟨rfl, bb10.out⟩
          · have hlt : k < l.length := by omega
            rw [show (((k + 1 : Nat) : Int) - 1) = (k : Int) from by omega]
            have i0 : (0 : Int) ≤ (k : Int) := by omega
            have i1 : (k : Int) < (l.length : Int) := by omega
            obtain ⟨ad, rfl, a0, a1⟩ := ent_at (HL.out.below bb.out) k hlt
            have hsl := slice_from ad l.length c1 k (by omega) (by have := HCL.out; omega)
            obtain ⟨x, hx⟩ : ∃ x, x = l[k] := ⟨_, rfl⟩
            rw [← hx] at a0 a1
            have hdr := drop_here hlt
            rw [← hx] at hdr
            have HX := Lib.hid (HSL.out x (by rw [hx]; exact List.getElem_mem _))
            have HD := Lib.hid hdr
            clear hdr hx
            have RM := Lib.hid ((HL.out.below bb.out).drop k c1 HCL.out (by omega) (ad.add (k * 2)) (fun _ => rfl))
            have RL := Lib.hid (HM.out.below bb.out)
            rw [HD.out] at RM
            have d0 := over_cell a0
            have d1 := over_cell a1
            have hlen : l.length - k = (x :: l.drop (k + 1)).length := by rw [← HD.out, List.length_drop]
            have HLN := Lib.hid hlen
            clear hlen
            obtain ⟨qn, hqn⟩ : ∃ qn, qn = l.length - k := ⟨_, rfl⟩
            obtain ⟨qc, hqc⟩ : ∃ qc, qc = c1 - k := ⟨_, rfl⟩
            rw [← hqn, ← hqc] at hsl
            rw [← hqn] at HLN
            clear hqn hqc
            obtain ⟨n1, hn1⟩ : ∃ n1, n1 = m.count x := ⟨_, rfl⟩
            obtain ⟨n2, hn2⟩ : ∃ n2, n2 = (x :: l.drop (k + 1)).count x := ⟨_, rfl⟩
            have T1 := Lib.hid (show ∀ (q : Over W16), Calls Try.prog 24 #[.slice (some (ad.add (k * 2))) qn qc, .agg #[.string x.key, .string x.sum]] q.w fun e w' => e = .returned (.int .i64 (n2 : Int)) ∧ Below q.w.heap.size q.w w' from fun q => by rw [hn2]; exact times_n _ _ _ _ x q.w (RM.out.below q.h) HLN.out)
            have T2 := Lib.hid (show ∀ (q : Over W16), Calls Try.prog 24 #[.slice A2 m.length c2, .agg #[.string x.key, .string x.sum]] q.w fun e w' => e = .returned (.int .i64 (n1 : Int)) ∧ Below q.w.heap.size q.w w' from fun q => by rw [hn1]; exact times_any _ _ _ x q.w (RL.out.below q.h))
            by_cases hcmp : n1 < n2
            · have r1 : (n1 : Int) < (n2 : Int) := by omega
              have r2 : decide (n1 < n2) = true := decide_eq_true hcmp
              have r3 : decide ((n1 : Int) < (n2 : Int)) = true := decide_eq_true r1
              have HCM := Lib.hid (show m.count x < (x :: l.drop (k + 1)).count x by omega)
              clear hcmp hn1 hn2
              go_upto_region 21 with fail
              refine over_region (W := W16) (by kernel_rfl) (by kernel_rfl) (by repeat (first | exact Below.refl _ _ | refine bl_drewN ?_ _ | refine bl_drew ?_ | refine bl_alloc ?_ _)) ?_
              repeat (go_big_quiet_step (first | with_reducible exact over_of (T1.out _) | with_reducible exact over_of (T2.out _)))
              refine wpQuiet_nil ?_
              intro _ hx_
              obtain ⟨x_, hx_⟩ := hx_
              subst hx_
              obtain ⟨w5, hb5⟩ := x_
              dsimp only
              have sd5 := Lib.hid (sd.out.below hb5)
              have su5 := Lib.hid (su.out.below hb5)
              have bb5 := Lib.hid (bl_then bb.out hb5)
              have a0' := over_at d0 w5 hb5
              have a1' := over_at d1 w5 hb5
              clear hb5 d0 d1 a0 a1 T1 T2
              go_wp2_with fail
              refine (itemS_any x HX.out w5).mono ?_
              rintro e w6 ⟨rfl, hb6⟩
              have sd6 := Lib.hid (sd5.out.below hb6)
              have su6 := Lib.hid (su5.out.below hb6)
              have bb6 := Lib.hid (bl_then bb5.out hb6)
              clear hb6 a0' a1'
              have ha := add_s (itemP x) sd6.out
              rw [exc_yes HCM.out] at ha
              go_wp2_with (go_at_call 12; refine (ha).mono ?_; rintro e w7 ⟨rfl, hs, hg⟩; have sd7 := Lib.hid hs; have su7 := Lib.hid (su6.out.far hg nn1 nn2); have bb7 := Lib.hid (bl_laid bb6.out sd6.out qd hg); clear hs hg)
              go_roundw
              case rel => exact ⟨k, by omega, by go_num, by rw [HD.out]; exact sd7, su7, bb7⟩
              case measure => simp [intOf]
            · have r1 : ¬ (n1 : Int) < (n2 : Int) := by omega
              have r2 : decide (n1 < n2) = false := decide_eq_false hcmp
              have r3 : decide ((n1 : Int) < (n2 : Int)) = false := decide_eq_false r1
              have HCM := Lib.hid (show ¬ m.count x < (x :: l.drop (k + 1)).count x by omega)
              clear hcmp hn1 hn2
              go_upto_region 21 with fail
              refine over_region (W := W16) (by kernel_rfl) (by kernel_rfl) (by repeat (first | exact Below.refl _ _ | refine bl_drewN ?_ _ | refine bl_drew ?_ | refine bl_alloc ?_ _)) ?_
              repeat (go_big_quiet_step (first | with_reducible exact over_of (T1.out _) | with_reducible exact over_of (T2.out _)))
              refine wpQuiet_nil ?_
              intro _ hx_
              obtain ⟨x_, hx_⟩ := hx_
              subst hx_
              obtain ⟨w5, hb5⟩ := x_
              dsimp only
              have sd5 := Lib.hid (sd.out.below hb5)
              have su5 := Lib.hid (su.out.below hb5)
              have bb5 := Lib.hid (bl_then bb.out hb5)
              clear hb5 d0 d1 a0 a1 T1 T2
              rw [exc_no HCM.out] at sd5
              go_wp2
              go_roundw
              case rel => exact ⟨k, by omega, by go_num, by rw [HD.out]; exact sd5, su5, bb5⟩
              case measure => simp [intOf]
      · have hlt : k < m.length := by omega
        rw [show (((k + 1 : Nat) : Int) - 1) = (k : Int) from by omega]
        have i0 : (0 : Int) ≤ (k : Int) := by omega
        have i1 : (k : Int) < (m.length : Int) := by omega
        obtain ⟨ad, rfl, a0, a1⟩ := ent_at (HM.out.below bb.out) k hlt
        have hsl := slice_from ad m.length c2 k (by omega) (by have := HCM.out; omega)
        obtain ⟨x, hx⟩ : ∃ x, x = m[k] := ⟨_, rfl⟩
        rw [← hx] at a0 a1
        have hdr := drop_here hlt
        rw [← hx] at hdr
        have HX := Lib.hid (HSM.out x (by rw [hx]; exact List.getElem_mem _))
        have HD := Lib.hid hdr
        clear hdr hx
        have RM := Lib.hid ((HM.out.below bb.out).drop k c2 HCM.out (by omega) (ad.add (k * 2)) (fun _ => rfl))
        have RL := Lib.hid (HL.out.below bb.out)
        rw [HD.out] at RM
        have d0 := over_cell a0
        have d1 := over_cell a1
        have hlen : m.length - k = (x :: m.drop (k + 1)).length := by rw [← HD.out, List.length_drop]
        have HLN := Lib.hid hlen
        clear hlen
        obtain ⟨qn, hqn⟩ : ∃ qn, qn = m.length - k := ⟨_, rfl⟩
        obtain ⟨qc, hqc⟩ : ∃ qc, qc = c2 - k := ⟨_, rfl⟩
        rw [← hqn, ← hqc] at hsl
        rw [← hqn] at HLN
        clear hqn hqc
        obtain ⟨n1, hn1⟩ : ∃ n1, n1 = l.count x := ⟨_, rfl⟩
        obtain ⟨n2, hn2⟩ : ∃ n2, n2 = (x :: m.drop (k + 1)).count x := ⟨_, rfl⟩
        have T1 := Lib.hid (show ∀ (q : Over W15), Calls Try.prog 24 #[.slice (some (ad.add (k * 2))) qn qc, .agg #[.string x.key, .string x.sum]] q.w fun e w' => e = .returned (.int .i64 (n2 : Int)) ∧ Below q.w.heap.size q.w w' from fun q => by rw [hn2]; exact times_n _ _ _ _ x q.w (RM.out.below q.h) HLN.out)
        have T2 := Lib.hid (show ∀ (q : Over W15), Calls Try.prog 24 #[.slice A1 l.length c1, .agg #[.string x.key, .string x.sum]] q.w fun e w' => e = .returned (.int .i64 (n1 : Int)) ∧ Below q.w.heap.size q.w w' from fun q => by rw [hn1]; exact times_any _ _ _ x q.w (RL.out.below q.h))
        by_cases hcmp : n1 < n2
        · have r1 : (n1 : Int) < (n2 : Int) := by omega
          have r2 : decide (n1 < n2) = true := decide_eq_true hcmp
          have r3 : decide ((n1 : Int) < (n2 : Int)) = true := decide_eq_true r1
          have HCM := Lib.hid (show l.count x < (x :: m.drop (k + 1)).count x by omega)
          clear hcmp hn1 hn2
          go_upto_region 16 with fail
          refine over_region (W := W15) (by kernel_rfl) (by kernel_rfl) (by repeat (first | exact Below.refl _ _ | refine bl_drewN ?_ _ | refine bl_drew ?_ | refine bl_alloc ?_ _)) ?_
          repeat (go_big_quiet_step (first | with_reducible exact over_of (T1.out _) | with_reducible exact over_of (T2.out _)))
          refine wpQuiet_nil ?_
          intro _ hx_
          obtain ⟨x_, hx_⟩ := hx_
          subst hx_
          obtain ⟨w5, hb5⟩ := x_
          dsimp only
          have sd5 := Lib.hid (sd.out.below hb5)
          have su5 := Lib.hid (su.out.below hb5)
          have bb5 := Lib.hid (bl_then bb.out hb5)
          have a0' := over_at d0 w5 hb5
          have a1' := over_at d1 w5 hb5
          clear hb5 d0 d1 a0 a1 T1 T2
          go_wp2_with fail
          refine (itemS_any x HX.out w5).mono ?_
          rintro e w6 ⟨rfl, hb6⟩
          have sd6 := Lib.hid (sd5.out.below hb6)
          have su6 := Lib.hid (su5.out.below hb6)
          have bb6 := Lib.hid (bl_then bb5.out hb6)
          clear hb6 a0' a1'
          have ha := take_s (itemP x) sd6.out
          rw [exc_yes HCM.out] at ha
          go_wp2_with (go_at_call 13; refine (ha).mono ?_; rintro e w7 ⟨rfl, hs, hg⟩; have sd7 := Lib.hid hs; have su7 := Lib.hid (su6.out.far hg nn1 nn2); have bb7 := Lib.hid (bl_laid bb6.out sd6.out qd hg); clear hs hg)
          go_roundw
          case rel => exact ⟨k, by omega, by go_num, by rw [HD.out]; exact sd7, su7, bb7⟩
          case measure => simp [intOf]
        · have r1 : ¬ (n1 : Int) < (n2 : Int) := by omega
          have r2 : decide (n1 < n2) = false := decide_eq_false hcmp
          have r3 : decide ((n1 : Int) < (n2 : Int)) = false := decide_eq_false r1
          have HCM := Lib.hid (show ¬ l.count x < (x :: m.drop (k + 1)).count x by omega)
          clear hcmp hn1 hn2
          go_upto_region 16 with fail
          refine over_region (W := W15) (by kernel_rfl) (by kernel_rfl) (by repeat (first | exact Below.refl _ _ | refine bl_drewN ?_ _ | refine bl_drew ?_ | refine bl_alloc ?_ _)) ?_
          repeat (go_big_quiet_step (first | with_reducible exact over_of (T1.out _) | with_reducible exact over_of (T2.out _)))
          refine wpQuiet_nil ?_
          intro _ hx_
          obtain ⟨x_, hx_⟩ := hx_
          subst hx_
          obtain ⟨w5, hb5⟩ := x_
          dsimp only
          have sd5 := Lib.hid (sd.out.below hb5)
          have su5 := Lib.hid (su.out.below hb5)
          have bb5 := Lib.hid (bl_then bb.out hb5)
          clear hb5 d0 d1 a0 a1 T1 T2
          rw [exc_no HCM.out] at sd5
          go_wp2
          go_roundw
          case rel => exact ⟨k, by omega, by go_num, by rw [HD.out]; exact sd5, su5, bb5⟩
          case measure => simp [intOf]
  · skip
    obtain ⟨n, rfl⟩ : ∃ n : Nat, cells = n := ⟨cells.toNat, by omega⟩
    go_enter Try.func7, Try.ntmps7
    go_upto_region 5 with (go_at_call 18; refine (works_any w).mono ?_; rintro e w1 ⟨rfl, hb⟩; have B1 := Lib.hid hb; clear hb)
    go_wp2_with (at_builtin; refine GR.app_twin (K := entK) rfl (.tmp 26) (.tmp 27) _ rfl Try.underlying46 hi0 hz0 hz1 hz2 rfl rfl A1 l.length c1 l rfl rfl (HL.out.below B1.out) (by show l.length * 32 ≤ _; omega) ?_; intro v2 w2 ho2 hb2; have B2 := Lib.hid (bl_then B1.out hb2); obtain ⟨A3, c3', rfl, _, hr2⟩ := ho2.rd' (by show l.length * 32 ≤ _; omega); have R2 := Lib.hid hr2; clear ho2 hb2 hr2)
    refine (of_sk A3 c3' l n (by omega) (by omega) w2 R2.out HSL.out).mono ?_
    rintro e w3 ⟨⟨g1, rfl, hg1, c5, e5, hs⟩, hb⟩
    have S3 := Lib.hid hs
    have B3 := Lib.hid (bl_then B2.out hb)
    clear hs hb B1 B2 R2
    go_wp2_with (at_builtin; refine GR.app_twin (K := entK) rfl (.tmp 34) (.tmp 35) _ rfl Try.underlying46 hi0 hz0 hz1 hz2 rfl rfl A2 m.length c2 m rfl rfl (HM.out.below B3.out) (by show m.length * 32 ≤ _; omega) ?_; intro v4 w4 ho4 hb4; have B4 := Lib.hid (bl_then B3.out hb4); have S4 := Lib.hid (S3.out.below hb4); obtain ⟨A4, c4', rfl, _, hr4⟩ := ho4.rd' (by show m.length * 32 ≤ _; omega); have R4 := Lib.hid hr4; clear ho4 hb4 hr4)
    refine (of_sk A4 c4' m n (by omega) (by omega) w4 R4.out HSM.out).mono ?_
    rintro e w5 ⟨⟨g2, rfl, hg2, c6, e6, hs⟩, hb⟩
    have T5 := Lib.hid hs
    have S5 := Lib.hid (S4.out.below hb)
    have B5 := Lib.hid (bl_then B4.out hb)
    clear hs hb B3 B4 R4 S3 S4
    go_wp2_with fail
    refine (newS_any n (by omega) (by omega) w5).mono ?_
    rintro e w6 ⟨⟨g3, rfl, hg3, c3, e3, hs⟩, hb⟩
    have D6 := Lib.hid hs
    have S6 := Lib.hid (S5.out.below hb)
    have T6 := Lib.hid (T5.out.below hb)
    have B6 := Lib.hid (bl_then B5.out hb)
    have hw5 := B5.out.size
    clear hs hb S5 T5 B5
    go_wp2_with fail
    refine (minus_any _ g1 c5 e5 _ g2 c6 e6 _ _ w6 S6.out T6.out (by rw [all_len, all_len])).mono ?_
    rintro e w7 ⟨⟨g4, rfl, hg4, c4, e4, hs⟩, hb⟩
    obtain ⟨U, hU⟩ : ∃ U, U = addL (layAll 1 (zL n) (l.map itemP)) (negL (layAll 1 (zL n) (m.map itemP))) := ⟨_, rfl⟩
    rw [← hU] at hs
    have HU := Lib.hid (show U = layAll 1 (layAll (-1) (zL n) ((exc l m).reverse.map itemP)) ((exc m l).reverse.map itemP) from hU.trans (sums_law itemP n l m))
    clear hU
    have D7 := Lib.hid (D6.out.below hb)
    have U7 := Lib.hid hs
    have B7 := Lib.hid (bl_then B6.out hb)
    obtain ⟨BD, hBD⟩ : ∃ BD, BD = w5.heap.size := ⟨_, rfl⟩
    obtain ⟨BU, hBU⟩ : ∃ BU, BU = w6.heap.size := ⟨_, rfl⟩
    have nn1 : c4 ≠ c3 := by have := D6.out.clt; have := U7.out.clt; omega
    have nn2 : g4 ≠ c3 := by have := D6.out.clt; omega
    rw [← hBD] at D7 hw5
    rw [← hBU] at U7
    have qd : w.heap.size ≤ BD := hw5
    have SD := D7
    have SU := U7
    have BZ := B7
    have e9 : wrap64 ((m.length : Int) - 1) = (m.length : Int) - 1 := by unfold wrap64; omega
    clear hs hb S6 T6 D6 B6 hBD hBU hw5 D7 U7 B7 hg1 hg2 hg3 hg4
    go_wp2_with fail
    go_loopw [15] (fun i w' => ∃ k : Nat, k ≤ m.length ∧ i = .int .i64 ((k : Int) - 1) ∧ Hid (Skt w' BD g3 c3 e3 (layAll (-1) (zL n) ((exc l (m.drop k)).reverse.map itemP))) ∧ Hid (Skt w' BU g4 c4 e4 U) ∧ Hid (Below w.heap.size w w')) (fun i _ => (intOf i + 1).toNat)
    case atStart => exact ⟨m.length, Nat.le_refl _, rfl, by rw [List.drop_length, exc_nil]; exact SD, SU, BZ⟩
    case round =>
      obtain ⟨W15, hw_⟩ : ∃ x : World, x = wr := ⟨_, rfl⟩
      subst hw_
      obtain ⟨k, hk, rfl, sd, su, bb⟩ := hrel
      rcases k with _ | k
      · skip
        rw [List.drop_zero] at sd
        rw [show (((0 : Nat) : Int) - 1) = -1 from rfl]
        have e0 : wrap64 ((l.length : Int) - 1) = (l.length : Int) - 1 := by unfold wrap64; omega
        go_wp2_with fail
        go_loopw [16] (fun i w' => ∃ k : Nat, k ≤ l.length ∧ i = .int .i64 ((k : Int) - 1) ∧ Hid (Skt w' BD g3 c3 e3 (layAll 1 (layAll (-1) (zL n) ((exc l m).reverse.map itemP)) ((exc m (l.drop k)).reverse.map itemP))) ∧ Hid (Skt w' BU g4 c4 e4 U) ∧ Hid (Below w.heap.size w w')) (fun i _ => (intOf i + 1).toNat)
        case atStart => exact ⟨l.length, Nat.le_refl _, rfl, by rw [List.drop_length, exc_nil]; exact sd, su, bb⟩
        case round =>
          obtain ⟨W16, hw_⟩ : ∃ x : World, x = wr := ⟨_, rfl⟩
          subst hw_
          obtain ⟨k, hk, rfl, sd, su, bb⟩ := hrel
          rcases k with _ | k
          · skip
            have hcU := cells_any _ g4 c4 e4 U W16 su.out
            rw [List.drop_zero, ← HU.out] at sd
            go_wp2_with fail
            refine (hcU).mono ?_
            rintro e w8 ⟨dU, fU, rfl, oU, hb⟩
            have OU := Lib.hid oU
            have sd8 := Lib.hid (sd.out.below hb)
            have bb8 := Lib.hid (bl_then bb.out hb)
            clear hb oU hcU
            have hcD := cells_any _ g3 c3 e3 _ w8 sd8.out
            go_wp2_with fail
            refine (hcD).mono ?_
            rintro e w9 ⟨dD, fD, rfl, oD, hb⟩
            have OU9 := Lib.hid (OU.out.below hb)
            have OD9 := Lib.hid oD
            have bb9 := Lib.hid (bl_then bb8.out hb)
            clear hb oD hcD
            have hsm := sameCells_any (some ⟨dU, 0, none⟩) (some ⟨dD, 0, none⟩) fU fD U U w9 (OU9.out.rd (by show U.length * 24 ≤ _; have := su.out.n2; omega)).2.2 (OD9.out.rd (by show U.length * 24 ≤ _; have := su.out.n2; omega)).2.2
            rw [show decide (U = U) = true from by simp] at hsm
            go_wp2_with (go_at_call 22; refine (hsm).mono ?_; rintro e w10 ⟨rfl, hb⟩; have bb10 := Lib.hid (bl_then bb9.out hb); clear hb)
            go_ret
            exact ⟨rfl, bb10.out⟩
          · have hlt : k < l.length := by omega
            rw [show (((k + 1 : Nat) : Int) - 1) = (k : Int) from by omega]
            have i0 : (0 : Int) ≤ (k : Int) := by omega
            have i1 : (k : Int) < (l.length : Int) := by omega
            obtain ⟨ad, rfl, a0, a1⟩ := ent_at (HL.out.below bb.out) k hlt
            have hsl := slice_from ad l.length c1 k (by omega) (by have := HCL.out; omega)
            obtain ⟨x, hx⟩ : ∃ x, x = l[k] := ⟨_, rfl⟩
            rw [← hx] at a0 a1
            have hdr := drop_here hlt
            rw [← hx] at hdr
            have HX := Lib.hid (HSL.out x (by rw [hx]; exact List.getElem_mem _))
            have HD := Lib.hid hdr
            clear hdr hx
            have RM := Lib.hid ((HL.out.below bb.out).drop k c1 HCL.out (by omega) (ad.add (k * 2)) (fun _ => rfl))
            have RL := Lib.hid (HM.out.below bb.out)
            rw [HD.out] at RM
            have d0 := over_cell a0
            have d1 := over_cell a1
            have hlen : l.length - k = (x :: l.drop (k + 1)).length := by rw [← HD.out, List.length_drop]
            have HLN := Lib.hid hlen
            clear hlen
            obtain ⟨qn, hqn⟩ : ∃ qn, qn = l.length - k := ⟨_, rfl⟩
            obtain ⟨qc, hqc⟩ : ∃ qc, qc = c1 - k := ⟨_, rfl⟩
            rw [← hqn, ← hqc] at hsl
            rw [← hqn] at HLN
            clear hqn hqc
            obtain ⟨n1, hn1⟩ : ∃ n1, n1 = m.count x := ⟨_, rfl⟩
            obtain ⟨n2, hn2⟩ : ∃ n2, n2 = (x :: l.drop (k + 1)).count x := ⟨_, rfl⟩
            have T1 := Lib.hid (show ∀ (q : Over W16), Calls Try.prog 24 #[.slice (some (ad.add (k * 2))) qn qc, .agg #[.string x.key, .string x.sum]] q.w fun e w' => e = .returned (.int .i64 (n2 : Int)) ∧ Below q.w.heap.size q.w w' from fun q => by rw [hn2]; exact times_n _ _ _ _ x q.w (RM.out.below q.h) HLN.out)
            have T2 := Lib.hid (show ∀ (q : Over W16), Calls Try.prog 24 #[.slice A2 m.length c2, .agg #[.string x.key, .string x.sum]] q.w fun e w' => e = .returned (.int .i64 (n1 : Int)) ∧ Below q.w.heap.size q.w w' from fun q => by rw [hn1]; exact times_any _ _ _ x q.w (RL.out.below q.h))
            by_cases hcmp : n1 < n2
            · have r1 : (n1 : Int) < (n2 : Int) := by omega
              have r2 : decide (n1 < n2) = true := decide_eq_true hcmp
              have r3 : decide ((n1 : Int) < (n2 : Int)) = true := decide_eq_true r1
              have HCM := Lib.hid (show m.count x < (x :: l.drop (k + 1)).count x by omega)
              clear hcmp hn1 hn2
              go_upto_region 21 with fail
              refine over_region (W := W16) (by kernel_rfl) (by kernel_rfl) (by repeat (first | exact Below.refl _ _ | refine bl_drewN ?_ _ | refine bl_drew ?_ | refine bl_alloc ?_ _)) ?_
              repeat (go_big_quiet_step (first | with_reducible exact over_of (T1.out _) | with_reducible exact over_of (T2.out _)))
              refine wpQuiet_nil ?_
              intro _ hx_
              obtain ⟨x_, hx_⟩ := hx_
              subst hx_
              obtain ⟨w5, hb5⟩ := x_
              dsimp only
              have sd5 := Lib.hid (sd.out.below hb5)
              have su5 := Lib.hid (su.out.below hb5)
              have bb5 := Lib.hid (bl_then bb.out hb5)
              have a0' := over_at d0 w5 hb5
              have a1' := over_at d1 w5 hb5
              clear hb5 d0 d1 a0 a1 T1 T2
              go_wp2_with fail
              refine (itemS_any x HX.out w5).mono ?_
              rintro e w6 ⟨rfl, hb6⟩
              have sd6 := Lib.hid (sd5.out.below hb6)
              have su6 := Lib.hid (su5.out.below hb6)
              have bb6 := Lib.hid (bl_then bb5.out hb6)
              clear hb6 a0' a1'
              have ha := add_s (itemP x) sd6.out
              rw [exc_yes HCM.out] at ha
              go_wp2_with (go_at_call 12; refine (ha).mono ?_; rintro e w7 ⟨rfl, hs, hg⟩; have sd7 := Lib.hid hs; have su7 := Lib.hid (su6.out.far hg nn1 nn2); have bb7 := Lib.hid (bl_laid bb6.out sd6.out qd hg); clear hs hg)
              go_roundw
              case rel => exact ⟨k, by omega, by go_num, by rw [HD.out]; exact sd7, su7, bb7⟩
              case measure => simp [intOf]
            · have r1 : ¬ (n1 : Int) < (n2 : Int) := by omega
              have r2 : decide (n1 < n2) = false := decide_eq_false hcmp
              have r3 : decide ((n1 : Int) < (n2 : Int)) = false := decide_eq_false r1
              have HCM := Lib.hid (show ¬ m.count x < (x :: l.drop (k + 1)).count x by omega)
              clear hcmp hn1 hn2
              go_upto_region 21 with fail
              refine over_region (W := W16) (by kernel_rfl) (by kernel_rfl) (by repeat (first | exact Below.refl _ _ | refine bl_drewN ?_ _ | refine bl_drew ?_ | refine bl_alloc ?_ _)) ?_
              repeat (go_big_quiet_step (first | with_reducible exact over_of (T1.out _) | with_reducible exact over_of (T2.out _)))
              refine wpQuiet_nil ?_
              intro _ hx_
              obtain ⟨x_, hx_⟩ := hx_
              subst hx_
              obtain ⟨w5, hb5⟩ := x_
              dsimp only
              have sd5 := Lib.hid (sd.out.below hb5)
              have su5 := Lib.hid (su.out.below hb5)
              have bb5 := Lib.hid (bl_then bb.out hb5)
              clear hb5 d0 d1 a0 a1 T1 T2
              rw [exc_no HCM.out] at sd5
              go_wp2
              go_roundw
              case rel => exact ⟨k, by omega, by go_num, by rw [HD.out]; exact sd5, su5, bb5⟩
              case measure => simp [intOf]
      · have hlt : k < m.length := by omega
        rw [show (((k + 1 : Nat) : Int) - 1) = (k : Int) from by omega]
        have i0 : (0 : Int) ≤ (k : Int) := by omega
        have i1 : (k : Int) < (m.length : Int) := by omega
        obtain ⟨ad, rfl, a0, a1⟩ := ent_at (HM.out.below bb.out) k hlt
        have hsl := slice_from ad m.length c2 k (by omega) (by have := HCM.out; omega)
        obtain ⟨x, hx⟩ : ∃ x, x = m[k] := ⟨_, rfl⟩
        rw [← hx] at a0 a1
        have hdr := drop_here hlt
        rw [← hx] at hdr
        have HX := Lib.hid (HSM.out x (by rw [hx]; exact List.getElem_mem _))
        have HD := Lib.hid hdr
        clear hdr hx
        have RM := Lib.hid ((HM.out.below bb.out).drop k c2 HCM.out (by omega) (ad.add (k * 2)) (fun _ => rfl))
        have RL := Lib.hid (HL.out.below bb.out)
        rw [HD.out] at RM
        have d0 := over_cell a0
        have d1 := over_cell a1
        have hlen : m.length - k = (x :: m.drop (k + 1)).length := by rw [← HD.out, List.length_drop]
        have HLN := Lib.hid hlen
        clear hlen
        obtain ⟨qn, hqn⟩ : ∃ qn, qn = m.length - k := ⟨_, rfl⟩
        obtain ⟨qc, hqc⟩ : ∃ qc, qc = c2 - k := ⟨_, rfl⟩
        rw [← hqn, ← hqc] at hsl
        rw [← hqn] at HLN
        clear hqn hqc
        obtain ⟨n1, hn1⟩ : ∃ n1, n1 = l.count x := ⟨_, rfl⟩
        obtain ⟨n2, hn2⟩ : ∃ n2, n2 = (x :: m.drop (k + 1)).count x := ⟨_, rfl⟩
        have T1 := Lib.hid (show ∀ (q : Over W15), Calls Try.prog 24 #[.slice (some (ad.add (k * 2))) qn qc, .agg #[.string x.key, .string x.sum]] q.w fun e w' => e = .returned (.int .i64 (n2 : Int)) ∧ Below q.w.heap.size q.w w' from fun q => by rw [hn2]; exact times_n _ _ _ _ x q.w (RM.out.below q.h) HLN.out)
        have T2 := Lib.hid (show ∀ (q : Over W15), Calls Try.prog 24 #[.slice A1 l.length c1, .agg #[.string x.key, .string x.sum]] q.w fun e w' => e = .returned (.int .i64 (n1 : Int)) ∧ Below q.w.heap.size q.w w' from fun q => by rw [hn1]; exact times_any _ _ _ x q.w (RL.out.below q.h))
        by_cases hcmp : n1 < n2
        · have r1 : (n1 : Int) < (n2 : Int) := by omega
          have r2 : decide (n1 < n2) = true := decide_eq_true hcmp
          have r3 : decide ((n1 : Int) < (n2 : Int)) = true := decide_eq_true r1
          have HCM := Lib.hid (show l.count x < (x :: m.drop (k + 1)).count x by omega)
          clear hcmp hn1 hn2
          go_upto_region 16 with fail
          refine over_region (W := W15) (by kernel_rfl) (by kernel_rfl) (by repeat (first | exact Below.refl _ _ | refine bl_drewN ?_ _ | refine bl_drew ?_ | refine bl_alloc ?_ _)) ?_
          repeat (go_big_quiet_step (first | with_reducible exact over_of (T1.out _) | with_reducible exact over_of (T2.out _)))
          refine wpQuiet_nil ?_
          intro _ hx_
          obtain ⟨x_, hx_⟩ := hx_
          subst hx_
          obtain ⟨w5, hb5⟩ := x_
          dsimp only
          have sd5 := Lib.hid (sd.out.below hb5)
          have su5 := Lib.hid (su.out.below hb5)
          have bb5 := Lib.hid (bl_then bb.out hb5)
          have a0' := over_at d0 w5 hb5
          have a1' := over_at d1 w5 hb5
          clear hb5 d0 d1 a0 a1 T1 T2
          go_wp2_with fail
          refine (itemS_any x HX.out w5).mono ?_
          rintro e w6 ⟨rfl, hb6⟩
          have sd6 := Lib.hid (sd5.out.below hb6)
          have su6 := Lib.hid (su5.out.below hb6)
          have bb6 := Lib.hid (bl_then bb5.out hb6)
          clear hb6 a0' a1'
          have ha := take_s (itemP x) sd6.out
          rw [exc_yes HCM.out] at ha
          go_wp2_with (go_at_call 13; refine (ha).mono ?_; rintro e w7 ⟨rfl, hs, hg⟩; have sd7 := Lib.hid hs; have su7 := Lib.hid (su6.out.far hg nn1 nn2); have bb7 := Lib.hid (bl_laid bb6.out sd6.out qd hg); clear hs hg)
          go_roundw
          case rel => exact ⟨k, by omega, by go_num, by rw [HD.out]; exact sd7, su7, bb7⟩
          case measure => simp [intOf]
        · have r1 : ¬ (n1 : Int) < (n2 : Int) := by omega
          have r2 : decide (n1 < n2) = false := decide_eq_false hcmp
          have r3 : decide ((n1 : Int) < (n2 : Int)) = false := decide_eq_false r1
          have HCM := Lib.hid (show ¬ l.count x < (x :: m.drop (k + 1)).count x by omega)
          clear hcmp hn1 hn2
          go_upto_region 16 with fail
          refine over_region (W := W15) (by kernel_rfl) (by kernel_rfl) (by repeat (first | exact Below.refl _ _ | refine bl_drewN ?_ _ | refine bl_drew ?_ | refine bl_alloc ?_ _)) ?_
          repeat (go_big_quiet_step (first | with_reducible exact over_of (T1.out _) | with_reducible exact over_of (T2.out _)))
          refine wpQuiet_nil ?_
          intro _ hx_
          obtain ⟨x_, hx_⟩ := hx_
          subst hx_
          obtain ⟨w5, hb5⟩ := x_
          dsimp only
          have sd5 := Lib.hid (sd.out.below hb5)
          have su5 := Lib.hid (su.out.below hb5)
          have bb5 := Lib.hid (bl_then bb.out hb5)
          clear hb5 d0 d1 a0 a1 T1 T2
          rw [exc_no HCM.out] at sd5
          go_wp2
          go_roundw
          case rel => exact ⟨k, by omega, by go_num, by rw [HD.out]; exact sd5, su5, bb5⟩
          case measure => simp [intOf]
end Go.Proofs.Ytpklkjekkbpeoaa
