/- DERIVED. The document's Encode of a state. -/
import Derived.Test.YtljfigikkajlnaaVDvEnc
import Derived.Test.YtljfigikkajlnaaVm6
import Derived.Test.YtljfigikkajlnaaVDvRefValid
namespace Go.Proofs.Ytljfigikkajlnaa
open Go.RowKit Go.Lib
set_option linter.unusedVariables false
set_option linter.unusedSimpArgs false
set_option maxRecDepth 100000 in
set_option maxHeartbeats 6400000 in
theorem refEncode_any (A B : Option Addr) (c d : Nat) (a : List Dot) (l : List Sib) (w : World) (ha : GR.Rd dotK w A a) (hl : GR.Rd sibK w B l) (na : ∀ d ∈ a, 0 ≤ d.n) (nl : ∀ x ∈ l, 0 ≤ x.d.n) (ra : ∀ d ∈ a, 0 ≤ d.a ∧ d.a ≤ 4294967295) (rl : ∀ x ∈ l, 0 ≤ x.d.a ∧ x.d.a ≤ 4294967295) :
    Calls Try.prog 67 #[.agg #[.slice A a.length c, .slice B l.length d]] w fun e w' => e = .returned (.tuple #[.string (encT a l), .int .i64 (encE a l)]) ∧ Below w.heap.size w w' := by
  have hml : l.length * 40 ≤ 140737488355328 := hl.max
  have HA := Lib.hid ha
  have HL := Lib.hid hl
  have NA := Lib.hid na
  have NL := Lib.hid nl
  have RA := Lib.hid ra
  have RL := Lib.hid rl
  clear ha hl na nl ra rl
  go_enter Try.func67, Try.ntmps67
  go_wp2_with fail
  obtain ⟨W1, hW1⟩ : ∃ W1 : World, W1 = w.alloc (.cells #[.slice A a.length c, .slice B l.length d] 25) := ⟨_, rfl⟩
  rw [← hW1]
  have LW : Hid (Below w.heap.size w W1) := Lib.hid (by rw [hW1]; exact (by repeat (first | exact Below.refl _ _ | refine bl_drewN ?_ _ | refine bl_drew ?_ | refine bl_alloc ?_ _)))
  have XA : Hid (GR.Blk W1 w.heap.size 25 #[.slice A a.length c, .slice B l.length d]) := Lib.hid (by rw [hW1]; exact GR.Blk.new _ _ _)
  clear hW1
  refine (refSta_any A B c d a l _ (HA.out.below LW.out) (HL.out.below LW.out) NA.out NL.out).mono ?_
  rintro e w2 ⟨rfl, hb2⟩
  have B2 := Lib.hid (bl_then LW.out hb2)
  have X2 := Lib.hid (XA.out.below hb2 XA.out.lt)
  clear hb2
  by_cases h1 : staB a l = false
  · have HT := Lib.hid (show encT a l = ⟨#[]⟩ by rw [encT, h1]; rfl)
    have HE := Lib.hid (show encE a l = 110 by rw [encE, h1]; rfl)
    rw [h1]
    go_wp2
    try rw [Exit.noGoto_ret]
    exact bodyPost_ret (v := .tuple #[.string ⟨#[]⟩, .int .i64 110]) (by simp [results, Try.results67, go_sem]) rfl ⟨by rw [HT.out, HE.out], B2.out⟩
  · replace h1 : staB a l = true := by simpa using h1
    rw [h1]
    have HT := Lib.hid (show encT a l = ⟨(encS a l).toArray⟩ by rw [encT, h1]; rfl)
    have HE := Lib.hid (show encE a l = 0 by rw [encE, h1]; rfl)
    have h64 : l.length ≤ 64 := (sta_ok h1).2.1
    have HV := Lib.hid (sta_ok h1).1
    have HVL := Lib.hid (vecU_len (vec_len (sta_ok h1).1) (fun d hd => ⟨(RA.out d hd).2, (vec_ok (sta_ok h1).1 d hd).2⟩))
    have HSO : Hid (∀ x ∈ l, SibOk x) := Lib.hid (fun x hx => by
      have h2 := (sta_ok h1).2.2 x hx
      have h3 := (cov_vec (sta_ok h1).1 x.d).1 h2.1
      have h4 := look_bound (sta_ok h1).1 x.d.a
      exact ⟨(RL.out x hx).2, by omega, h2.2.1⟩)
    clear h1
    have hg2 : w.heap.size < w2.heap.size := X2.out.lt
    have u10 := uintU_len10 (show l.length < 18446744073709551616 by omega)
    have HLR := Lib.hid (HL.out.below B2.out)
    have ps_0 : w2.cell? ⟨w.heap.size, 0, none⟩ = some (.slice A a.length c) := X2.out.cell 0
    go_wp2_with fail
    clear ps_0
    refine (refVEnc_any A c a _ (HA.out.below B2.out) HV.out RA.out).mono ?_
    rintro e w4 ⟨rfl, hb4⟩
    have B4 := Lib.hid hb4
    clear hb4
    have ps_1 : w4.cell? ⟨w.heap.size, 1, none⟩ = some (.slice B l.length d) := (X2.out.below B4.out hg2).cell 1
    have hvl := HVL.out
    have e0 : IntKind.u64.wrap (l.length : Int) = (l.length : Int) := IntWalk.u64_in _ (by omega)
    have hc0 := scat (vecU a) (uintU l.length) (by omega)
    go_wp2_with fail
    refine (refUint_any l.length (by omega) _).mono ?_
    rintro e w5 ⟨rfl, hb5⟩
    have B5 := Lib.hid (bl_then B4.out hb5)
    clear hb5 ps_1 e0
    go_wp2
    clear hc0
    go_loopw [4, 6] (fun s0 ii w' => ∃ (i : Nat) (S : List UInt8), s0 = .string ⟨S.toArray⟩ ∧ ii = .int .i64 i ∧ i ≤ l.length ∧ Hid (S = vecU a ++ uintU l.length ++ (l.take i).flatMap sibU) ∧ Hid (Below w2.heap.size w2 w')) (fun _ ii _ => l.length - (intOf ii).toNat)
    case atStart => exact ⟨0, _, rfl, rfl, Nat.zero_le _, Lib.hid (by simp), B5⟩
    case round =>
      obtain ⟨i, S, rfl, rfl, hi, hS, hb3⟩ := hrel
      have ps_1 : wr.cell? ⟨w.heap.size, 1, none⟩ = some (.slice B l.length d) := (X2.out.below hb3.out hg2).cell 1
      have hgr : w.heap.size < wr.heap.size := Nat.lt_of_lt_of_le hg2 hb3.out.size
      by_cases hlt : i < l.length
      · have i0 : (0 : Int) ≤ (i : Int) := by omega
        have i1 : (i : Int) < (l.length : Int) := by omega
        obtain ⟨ad, eA, _, x0, x1, x2, x3⟩ := sib_at (HLR.out.below hb3.out) i hlt
        have hx := RL.out _ (List.getElem_mem hlt)
        have hy := HSO.out _ (List.getElem_mem hlt)
        have hz := NL.out _ (List.getElem_mem hlt)
        have hlen : S.length ≤ 8000 := by
          have := sibs_len (l.take i) (fun d hd => HSO.out d (List.mem_of_mem_take hd))
          rw [hS.out]
          simp at this ⊢; omega
        have HSN := Lib.hid (sibs_snoc hlt)
        obtain ⟨p, hp⟩ : ∃ p : Nat, l[i].d.a = p := ⟨l[i].d.a.toNat, by omega⟩
        obtain ⟨q, hq⟩ : ∃ q : Nat, l[i].d.n = q := ⟨l[i].d.n.toNat, by omega⟩
        have hp2 : p ≤ 4294967295 := by omega
        have hq2 : q ≤ 1099511627776 := by have := hy.2.1; omega
        have hv2 : l[i].v.size ≤ 40 := hy.2.2
        have e1 : IntKind.u64.wrap (p : Int) = (p : Int) := IntWalk.u64_in _ (by omega)
        have HSP := Lib.hid (show l[i].d.a.toNat = p by omega)
        have HSQ := Lib.hid (show l[i].d.n.toNat = q by omega)
        have u1 := uintU_len10 (show p < 18446744073709551616 by omega)
        have u2 := uintU_len10 (show q < 18446744073709551616 by omega)
        have u3 : (textU l[i].v).length ≤ 50 := by
          have h2 := uintU_len10 (show l[i].v.size < 18446744073709551616 by omega)
          have h3 : l[i].v.data.toList.length = l[i].v.size := rfl
          simp only [textU, List.length_append, h3]; omega
        have hc1 := scat S (uintU p) (by omega)
        have hc2 := scat (S ++ uintU p) (uintU q) (by simp only [List.length_append]; omega)
        have hc3 := scat (S ++ uintU p ++ uintU q) [goneU l[i].gone] (by simp only [List.length_append, List.length_singleton]; omega)
        have hc4 := scat (S ++ uintU p ++ uintU q ++ [goneU l[i].gone]) (textU l[i].v) (by simp only [List.length_append, List.length_singleton]; omega)
        rw [hp] at x0
        rw [hq] at x1
        rw [eA] at ps_1
        clear hp hq hx hy hz eA
        rcases hgn : l[i].gone with _ | _
        · rw [hgn] at x2 hc3 hc4
          have HSG := Lib.hid hgn
          clear hgn
          have hG : ([goneU false]).toArray = #[0] := rfl
          clear hc3 hG
          have hc3 : ∀ W, (Op.stringOp .add ⟨(S ++ uintU p ++ uintU q).toArray⟩ ⟨#[0]⟩).run Try.prog W = .ok (.string ⟨(S ++ uintU p ++ uintU q ++ [goneU false]).toArray⟩) W := scat (S ++ uintU p ++ uintU q) [goneU false] (by simp only [List.length_append, List.length_singleton]; omega)
          go_wp2
          obtain ⟨W4, hW4⟩ : ∃ W : World, W = wr.alloc (.cells #[.int .u32 p, .int .u64 q, .bool false, .string l[i].v] 67) := ⟨_, rfl⟩
          rw [← hW4]
          have L4 : Hid (Below wr.heap.size wr W4) := Lib.hid (by rw [hW4]; exact (by repeat (first | exact Below.refl _ _ | refine bl_drewN ?_ _ | refine bl_drew ?_ | refine bl_alloc ?_ _)))
          have X4 : Hid (GR.Blk W4 wr.heap.size 67 #[.int .u32 p, .int .u64 q, .bool false, .string l[i].v]) := Lib.hid (by rw [hW4]; exact GR.Blk.new _ _ _)
          clear hW4 x0 x1 x2 x3 ps_1
          have y0 : W4.cell? ⟨wr.heap.size, 0, none⟩ = some (.int .u32 p) := X4.out.cell 0
          have y1 : W4.cell? ⟨wr.heap.size, 1, none⟩ = some (.int .u64 q) := X4.out.cell 1
          have y3 : W4.cell? ⟨wr.heap.size, 3, none⟩ = some (.string l[i].v) := X4.out.cell 3
          have oy0 := over_cell y0
          have oy1 := over_cell y1
          have oy3 := over_cell y3
          clear y0 y1 y3
          refine over_region (W := W4) (by kernel_rfl) (by kernel_rfl) (by repeat (first | exact Below.refl _ _ | refine bl_drewN ?_ _ | refine bl_drew ?_ | refine bl_alloc ?_ _)) ?_
          repeat (go_big_quiet_step (first | refine over_of (refUint_any _ (by omega) _) | refine over_of (refText_any _ (by omega) _)))
          refine wpQuiet_nil ?_
          intro _ hx_
          obtain ⟨x_, hx_⟩ := hx_
          subst hx_
          obtain ⟨w8, hb8⟩ := x_
          dsimp only
          have B8 := Lib.hid (bl_then (bl_then hb3.out L4.out) hb8)
          clear hb8 hc1 hc2 hc3 hc4 u1 u2 u3
          go_wp2
          go_roundw
          case rel => exact ⟨i + 1, _, rfl, by go_num, by omega, Lib.hid (by rw [HSN.out, HSP.out, HSQ.out, HSG.out, hS.out, strApp]; simp [goneU, List.append_assoc]), B8⟩
          case measure => simp [intOf]; omega
        · rw [hgn] at x2 hc3 hc4
          have HSG := Lib.hid hgn
          clear hgn
          have hG : ([goneU true]).toArray = #[1] := rfl
          clear hc3 hG
          have hc3 : ∀ W, (Op.stringOp .add ⟨(S ++ uintU p ++ uintU q).toArray⟩ ⟨#[1]⟩).run Try.prog W = .ok (.string ⟨(S ++ uintU p ++ uintU q ++ [goneU true]).toArray⟩) W := scat (S ++ uintU p ++ uintU q) [goneU true] (by simp only [List.length_append, List.length_singleton]; omega)
          go_wp2
          obtain ⟨W4, hW4⟩ : ∃ W : World, W = wr.alloc (.cells #[.int .u32 p, .int .u64 q, .bool true, .string l[i].v] 67) := ⟨_, rfl⟩
          rw [← hW4]
          have L4 : Hid (Below wr.heap.size wr W4) := Lib.hid (by rw [hW4]; exact (by repeat (first | exact Below.refl _ _ | refine bl_drewN ?_ _ | refine bl_drew ?_ | refine bl_alloc ?_ _)))
          have X4 : Hid (GR.Blk W4 wr.heap.size 67 #[.int .u32 p, .int .u64 q, .bool true, .string l[i].v]) := Lib.hid (by rw [hW4]; exact GR.Blk.new _ _ _)
          clear hW4 x0 x1 x2 x3 ps_1
          have y0 : W4.cell? ⟨wr.heap.size, 0, none⟩ = some (.int .u32 p) := X4.out.cell 0
          have y1 : W4.cell? ⟨wr.heap.size, 1, none⟩ = some (.int .u64 q) := X4.out.cell 1
          have y3 : W4.cell? ⟨wr.heap.size, 3, none⟩ = some (.string l[i].v) := X4.out.cell 3
          have oy0 := over_cell y0
          have oy1 := over_cell y1
          have oy3 := over_cell y3
          clear y0 y1 y3
          refine over_region (W := W4) (by kernel_rfl) (by kernel_rfl) (by repeat (first | exact Below.refl _ _ | refine bl_drewN ?_ _ | refine bl_drew ?_ | refine bl_alloc ?_ _)) ?_
          repeat (go_big_quiet_step (first | refine over_of (refUint_any _ (by omega) _) | refine over_of (refText_any _ (by omega) _)))
          refine wpQuiet_nil ?_
          intro _ hx_
          obtain ⟨x_, hx_⟩ := hx_
          subst hx_
          obtain ⟨w8, hb8⟩ := x_
          dsimp only
          have B8 := Lib.hid (bl_then (bl_then hb3.out L4.out) hb8)
          clear hb8 hc1 hc2 hc3 hc4 u1 u2 u3
          go_wp2
          go_roundw
          case rel => exact ⟨i + 1, _, rfl, by go_num, by omega, Lib.hid (by rw [HSN.out, HSP.out, HSQ.out, HSG.out, hS.out, strApp]; simp [goneU, List.append_assoc]), B8⟩
          case measure => simp [intOf]; omega
      · obtain rfl : i = l.length := by omega
        have HK := Lib.hid (show S = encS a l by rw [hS.out, List.take_length]; rfl)
        go_wp2
        try rw [Exit.noGoto_ret]
        exact bodyPost_ret (v := .tuple #[.string ⟨S.toArray⟩, .int .i64 0]) (by simp [results, Try.results67, go_sem]) rfl ⟨by rw [HT.out, HE.out, HK.out], bl_then B2.out hb3.out⟩
end Go.Proofs.Ytljfigikkajlnaa
