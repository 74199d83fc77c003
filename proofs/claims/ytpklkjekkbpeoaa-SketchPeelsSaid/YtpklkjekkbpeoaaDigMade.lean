/- DERIVED. What a block makes of a state: the document's text. -/
import Derived.Test.YtpklkjekkbpeoaaDigWords
import Derived.BigRegion
namespace Go.Proofs.Ytpklkjekkbpeoaa
open Go.RowKit
set_option linter.unusedVariables false
set_option linter.unusedSimpArgs false
attribute [local go_sem high] w_add w_xor w_and w_or w_andNot w_not w_shl w_shr u32_byte u8_word
attribute [local irreducible] arrW arrB kc wpList Code.wp

theorem grown_of_drewN {w w' : World} {r : Option Nat} {n : Nat} (h : (w.drewN n).grownBy w' r) : w.grownBy w' r := ⟨h.os, h.tape, h.output, h.size, h.block⟩
theorem zero_lt_of {b : Option Nat} {g lo : Nat} (h : lo ≤ g) (hb : b = some g) : ∀ x, b = some x → lo ≤ x := fun x hx => by rw [hb] at hx; injection hx with hx; omega

theorem arrRnd (F : Nat → W32) (k w : W32) : arrW 8 (rnd F k w) = #[.int .u32 (wv (F 7 + (rr (F 4) 6 ^^^ rr (F 4) 11 ^^^ rr (F 4) 25) + (F 4 &&& F 5 ^^^ ~~~(F 4) &&& F 6) + k + w + ((rr (F 0) 2 ^^^ rr (F 0) 13 ^^^ rr (F 0) 22) + (F 0 &&& F 1 ^^^ F 0 &&& F 2 ^^^ F 1 &&& F 2)))),
    .int .u32 (wv (F 0)), .int .u32 (wv (F 1)), .int .u32 (wv (F 2)), .int .u32 (wv (F 3 + (F 7 + (rr (F 4) 6 ^^^ rr (F 4) 11 ^^^ rr (F 4) 25) + (F 4 &&& F 5 ^^^ ~~~(F 4) &&& F 6) + k + w))), .int .u32 (wv (F 4)), .int .u32 (wv (F 5)), .int .u32 (wv (F 6))] := by
  rw [arr8]
  simp only [rnd, tOf, uOf, if_true, Nat.reduceEqDiff, if_false, Nat.reduceSub]
set_option maxRecDepth 100000 in
set_option maxHeartbeats 12800000 in
theorem made_any (f : Nat → W32) (ad : Addr) (cap : Nat) (m : Nat → UInt8) (w : World) (hm : Byt w ad 64 m) :
    Calls Try.prog 58 #[.agg (arrW 8 f), .slice (some ad) 64 cap] w fun e w' => e = .returned (.agg (arrW 8 (madeF f m))) ∧ Below w.heap.size w w' := by
  have HM := Lib.hid hm
  clear hm
  go_enter Try.func58, Try.ntmps58
  go_wp2_with (first
    | (refine box_arr (w := w) rfl 99 _ rfl (arrW 8 f) rfl ?_; intro Wa B_ L_ S_; have BWa := Lib.hid B_; have LWa := Lib.hid L_; have SWa := Lib.hid S_; clear B_ L_ S_)
    | (refine alloc_arr (w := Wa) rfl 99 rfl _ _ z8 ?_; intro Wb B_ L_ S_; have BWb := Lib.hid B_; have LWb := Lib.hid L_; have SWb := Lib.hid S_; clear B_ L_ S_)
    | (go_at_call 73; refine (refCubes_any Wb).mono ?_; rintro e Wc ⟨rfl, L_⟩; have LWc := Lib.hid L_; clear L_)
    | (refine alloc_arr (w := Wc) rfl 117 rfl _ _ z64 ?_; intro Wd B_ L_ S_; have BWd := Lib.hid B_; have LWd := Lib.hid L_; have SWd := Lib.hid S_; clear B_ L_ S_)
    | (refine store_arr (w := Wd) rfl 117 _ _ rfl Wc.heap.size (arrW 64 kc) rfl rfl _ _ BWd.out (by rw [arrW_size]; exact s64) (by rw [arrW_size, arrW_size]) (arrW_one _ _) ?_; intro We B_ G_ S_; have BWe := Lib.hid B_; have GWe := Lib.hid G_; have SWe := Lib.hid S_; clear B_ G_ S_)
    | (go_at_call 74; refine (words_any ad cap m We (HM.out.keep (bl_of_grown (bl_then (bl_then (bl_then LWa.out LWb.out) LWc.out) LWd.out) GWe.out (zero_lt_of (by have := SWa.out; have := SWb.out; have := LWc.out.size; omega) rfl)))).mono ?_; rintro e Wf ⟨rfl, L_⟩; have LWf := Lib.hid L_; clear L_)
    | (refine alloc_arr (w := Wf) rfl 117 rfl _ _ z64 ?_; intro Wg B_ L_ S_; have BWg := Lib.hid B_; have LWg := Lib.hid L_; have SWg := Lib.hid S_; clear B_ L_ S_)
    | (refine store_arr (w := Wg) rfl 117 _ _ rfl Wf.heap.size (arrW 64 (sched m)) rfl rfl _ _ BWg.out (by rw [arrW_size]; exact s64) (by rw [arrW_size, arrW_size]) (arrW_one _ _) ?_; intro Wh B_ G_ S_; have BWh := Lib.hid B_; have GWh := Lib.hid G_; have SWh := Lib.hid S_; clear B_ G_ S_)
    | (refine load_arr (w := Wh) rfl 99 _ rfl w.heap.size rfl 99 (arrW 8 f) _ _ (((((BWa.out.below LWb.out (by have := SWa.out; omega)).below LWc.out (by have := SWa.out; have := SWb.out; omega)).below LWd.out (by have := SWa.out; have := LWb.out.size; have := LWc.out.size; omega)).grown GWe.out (by intro e; injection e with e; have := SWa.out; have := LWb.out.size; have := LWc.out.size; omega)).below LWf.out (by have := SWa.out; have := LWb.out.size; have := LWc.out.size; have := LWd.out.size; have := GWe.out.size; omega) |>.below LWg.out (by have := SWa.out; have := LWb.out.size; have := LWc.out.size; have := LWd.out.size; have := GWe.out.size; have := LWf.out.size; omega) |>.grown GWh.out (by intro e; injection e with e; have := SWa.out; have := LWb.out.size; have := LWc.out.size; have := LWd.out.size; have := GWe.out.size; have := LWf.out.size; omega)) Try.underlying99 (by rw [arrW_size]; exact s8) ?_)
    | (refine alloc_arr (w := Wh) rfl 99 rfl _ _ z8 ?_; intro Wi B_ L_ S_; have BWi := Lib.hid B_; have LWi := Lib.hid L_; have SWi := Lib.hid S_; clear B_ L_ S_)
    | (refine store_arr (w := Wi) rfl 99 _ _ rfl Wh.heap.size (arrW 8 f) rfl rfl _ _ BWi.out (by rw [arrW_size]; exact s8) (by rw [arrW_size, arrW_size]) (arrW_one _ _) ?_; intro Wj B_ G_ S_; have BWj := Lib.hid B_; have GWj := Lib.hid G_; have SWj := Lib.hid S_; clear B_ G_ S_))
  obtain ⟨hs, LWj, HA, HR, HK, HW⟩ : (w.heap.size + 1 = Wa.heap.size ∧ Wa.heap.size < Wc.heap.size ∧ Wc.heap.size < Wf.heap.size ∧ Wf.heap.size < Wh.heap.size) ∧ Hid (Below w.heap.size w Wj) ∧ Hid (Blk Wj w.heap.size 99 (arrW 8 f)) ∧ Hid (Blk Wj Wa.heap.size 99 (arrW 8 fun _ => 0)) ∧ Hid (Blk Wj Wc.heap.size 117 (arrW 64 kc)) ∧ Hid (Blk Wj Wf.heap.size 117 (arrW 64 (sched m))) := by
    have a1 := SWa.out; have a2 := SWb.out; have a3 := LWc.out.size; have a4 := SWd.out; have a5 := SWe.out; have a6 := LWf.out.size; have a7 := SWg.out; have a8 := SWh.out; have a9 := SWi.out; have a10 := SWj.out
    have n1 : ∀ g, g < Wc.heap.size → some g ≠ some Wc.heap.size := fun g h e => by injection e with e; omega
    have n2 : ∀ g, g < Wf.heap.size → some g ≠ some Wf.heap.size := fun g h e => by injection e with e; omega
    have n3 : ∀ g, g < Wh.heap.size → some g ≠ some Wh.heap.size := fun g h e => by injection e with e; omega
    refine ⟨⟨by omega, by omega, by omega, by omega⟩, Lib.hid ?_, Lib.hid ?_, Lib.hid ?_, Lib.hid ?_, Lib.hid ?_⟩
    · exact bl_of_grown (bl_then (bl_of_grown (bl_then (bl_then (bl_of_grown (bl_then (bl_then (bl_then LWa.out LWb.out) LWc.out) LWd.out) GWe.out (zero_lt_of (by omega) rfl)) LWf.out) LWg.out) GWh.out (zero_lt_of (by omega) rfl)) LWi.out) GWj.out (zero_lt_of (by omega) rfl)
    · exact (((((((((BWa.out.below LWb.out (by omega)).below LWc.out (by omega)).below LWd.out (by omega)).grown GWe.out (n1 _ (by omega))).below LWf.out (by omega)).below LWg.out (by omega)).grown GWh.out (n2 _ (by omega))).below LWi.out (by omega)).grown GWj.out (n3 _ (by omega)))
    · exact ((((((((BWb.out.below LWc.out (by omega)).below LWd.out (by omega)).grown GWe.out (n1 _ (by omega))).below LWf.out (by omega)).below LWg.out (by omega)).grown GWh.out (n2 _ (by omega))).below LWi.out (by omega)).grown GWj.out (n3 _ (by omega)))
    · exact (((((BWe.out.below LWf.out (by omega)).below LWg.out (by omega)).grown GWh.out (n2 _ (by omega))).below LWi.out (by omega)).grown GWj.out (n3 _ (by omega)))
    · exact ((BWh.out.below LWi.out (by omega)).grown GWj.out (n3 _ (by omega)))
  have HS := Lib.hid hs
  clear hs BWa LWa SWa BWb LWb SWb LWc BWd LWd SWd BWe GWe SWe LWf BWg LWg SWg BWh GWh SWh BWi LWi SWi GWj SWj HM
  obtain ⟨gA, hgA⟩ : ∃ g, g = w.heap.size := ⟨_, rfl⟩
  go_loopg [8] 64 (fun gk s8 wx => ∃ i : Nat, i ≤ 64 ∧ gk = 64 - i ∧ s8 = .int .i64 i ∧ Hid (Blk wx Wh.heap.size 99 (arrW 8 (rounds f (sched m) i))) ∧ Hid (Wj.grownBy wx (some Wh.heap.size)))
  case atStart => exact ⟨0, by omega, rfl, rfl, BWj, Lib.hid (grown_refl _ _)⟩
  case round =>
    obtain ⟨i, hi, rfl, rfl, hb, hg⟩ := hrel
    by_cases hlt : i < 64
    · have i0 : (0 : Int) ≤ (i : Int) := by omega
      have i1 : (i : Int) < 64 := by omega
      have HR1 := Lib.hid (show rounds f (sched m) (i + 1) = rnd (rounds f (sched m) i) (kc i) (sched m i) from rfl)
      obtain ⟨F, hF⟩ : ∃ F, F = rounds f (sched m) i := ⟨_, rfl⟩
      obtain ⟨W_, hW_⟩ : ∃ W_, W_ = sched m i := ⟨_, rfl⟩
      have HWi := (HW.out.grown hg.out (fun e => by have := HS.out; injection e with e; omega)).cell i
      have HKi := (HK.out.grown hg.out (fun e => by have := HS.out; injection e with e; omega)).cell i
      rw [arrW_get _ _ hlt] at HWi HKi
      rw [← hF] at hb HR1
      rw [← hW_] at HWi HR1
      clear hF hW_
      have c0 : wr.cell? ⟨Wh.heap.size, 0, none⟩ = some (.int .u32 (wv (F 0))) := (hb.out.cell 0).trans (arrW_get _ _ (by omega))
      have c1 : wr.cell? ⟨Wh.heap.size, 1, none⟩ = some (.int .u32 (wv (F 1))) := (hb.out.cell 1).trans (arrW_get _ _ (by omega))
      have c2 : wr.cell? ⟨Wh.heap.size, 2, none⟩ = some (.int .u32 (wv (F 2))) := (hb.out.cell 2).trans (arrW_get _ _ (by omega))
      have c3 : wr.cell? ⟨Wh.heap.size, 3, none⟩ = some (.int .u32 (wv (F 3))) := (hb.out.cell 3).trans (arrW_get _ _ (by omega))
      have c4 : wr.cell? ⟨Wh.heap.size, 4, none⟩ = some (.int .u32 (wv (F 4))) := (hb.out.cell 4).trans (arrW_get _ _ (by omega))
      have c5 : wr.cell? ⟨Wh.heap.size, 5, none⟩ = some (.int .u32 (wv (F 5))) := (hb.out.cell 5).trans (arrW_get _ _ (by omega))
      have c6 : wr.cell? ⟨Wh.heap.size, 6, none⟩ = some (.int .u32 (wv (F 6))) := (hb.out.cell 6).trans (arrW_get _ _ (by omega))
      have c7 : wr.cell? ⟨Wh.heap.size, 7, none⟩ = some (.int .u32 (wv (F 7))) := (hb.out.cell 7).trans (arrW_get _ _ (by omega))
      go_wp2
      go_quiet (exact quiet_drawn (right_z _ _ (by decide) (by decide) _))
      go_wp2_with (first
        | (go_at_call 75; refine (right_z _ _ (by decide) (by decide) _).mono ?_; rintro e w5 ⟨rfl, n5, rfl⟩)
        | (refine store_arr rfl 99 _ _ rfl Wh.heap.size (arrW 8 (rnd F (kc i) W_)) rfl (by rw [arrRnd]; rfl) 99 _ hb.out (by rw [arrW_size]; exact s8) (by rw [arrW_size, arrW_size]) (arrW_one _ _) ?_; intro W5 B_ G_ S_; have B5 := Lib.hid B_; have G5 := Lib.hid (grown_of_drewN G_); clear B_ G_ S_))
      go_roundg (64 - (i + 1))
      case measure => omega
      case rel => exact ⟨i + 1, by omega, rfl, by go_num, by rw [HR1.out]; exact B5, Lib.hid (grown_step hg.out G5.out (.inl rfl))⟩
    · obtain rfl : i = 64 := by omega
      obtain ⟨R, hR⟩ : ∃ R, R = rounds f (sched m) 64 := ⟨_, rfl⟩
      have HRR := Lib.hid hR
      rw [← hR] at hb
      clear hR
      have HA2 := Lib.hid (HA.out.grown hg.out (fun e => by have := HS.out; injection e with e; omega))
      have HR2 := Lib.hid (HR.out.grown hg.out (fun e => by have := HS.out; injection e with e; omega))
      have LW := Lib.hid (bl_of_grown LWj.out hg.out (zero_lt_of (by have := HS.out; omega) rfl))
      clear hg HK HW HA HR LWj
      go_wp2
      go_loopg [17] 8 (fun gk s17 wx => ∃ j : Nat, j ≤ 8 ∧ gk = 8 - j ∧ s17 = .int .i64 j ∧ Hid (Blk wx Wh.heap.size 99 (arrW 8 (fun q => if q < j then R q + f q else R q))) ∧ Hid (wr.grownBy wx (some Wh.heap.size)))
      case atStart => exact ⟨0, by omega, rfl, rfl, Lib.hid (by rw [arrW_congr 8 (fun q => if q < 0 then R q + f q else R q) R (fun q hq => by simp)]; exact hb.out), Lib.hid (grown_refl _ _)⟩
      case round =>
        obtain ⟨j, hj, rfl, rfl, hb2, hg2⟩ := hrel
        by_cases hlt2 : j < 8
        · have j0 : (0 : Int) ≤ (j : Int) := by omega
          have j1 : (j : Int) < 8 := by omega
          have c0 : wr.cell? ⟨Wh.heap.size, j, none⟩ = some (.int .u32 (wv (R j))) := by
            rw [hb2.out.cell j, arrW_get _ _ hlt2, if_neg (Nat.lt_irrefl j)]
          have c1 : wr.cell? ⟨w.heap.size, j, none⟩ = some (.int .u32 (wv (f j))) := by
            rw [(HA2.out.grown hg2.out (fun e => by have := HS.out; injection e with e; omega)).cell j, arrW_get _ _ hlt2]
          have f0 : wr.frozen? ⟨Wh.heap.size, j, none⟩ = false := hb2.out.frozen j
          have HB3 := Lib.hid (show ∀ n, Blk ((wr.setCell ⟨Wh.heap.size, j, none⟩ (.int .u32 (wv (R j + f j)))).drewN n) Wh.heap.size 99 (arrW 8 (fun q => if q < j + 1 then R q + f q else R q)) from fun n => by
            have := hb2.out.set_ j (.int .u32 (wv (R j + f j)))
            rw [arrW_set] at this
            rw [arrW_congr 8 (fun q => if q < j + 1 then R q + f q else R q) (fun q => if q = j then R j + f j else if q < j then R q + f q else R q) (fun q hq => by
              by_cases h1 : q = j
              · subst h1; simp
              · by_cases h2 : q < j
                · simp [h1, h2, show q < j + 1 by omega]
                · simp [h1, h2, show ¬ q < j + 1 by omega])]
            exact this.drewN n)
          go_wp2
          go_region
          go_wp2
          go_roundg (8 - (j + 1))
          case measure => omega
          case rel => exact ⟨j + 1, by omega, rfl, by go_num, Lib.hid (HB3.out 1), Lib.hid (grown_step hg2.out (grown_drewN (grown_set' _ _ _ _) 1) (.inl rfl))⟩
        · obtain rfl : j = 8 := by omega
          have HM := Lib.hid (arrW_congr 8 (fun q => if q < 8 then R q + f q else R q) (madeF f m) (fun q hq => by simp only [hq, if_true]; rw [HRR.out]; rfl))
          have HB := Lib.hid hb2.out
          rw [HM.out] at HB
          have HR3 := Lib.hid (HR2.out.grown hg2.out (fun e => by have := HS.out; injection e with e; omega))
          have LW2 := Lib.hid (bl_of_grown LW.out hg2.out (zero_lt_of (by have := HS.out; omega) rfl))
          clear hb2 hg2 hj hlt2 HRR
          go_wp2_with (first
            | (refine load_arr rfl 99 _ rfl Wh.heap.size rfl _ _ _ _ HB.out Try.underlying99 (by rw [arrW_size]; exact s8) ?_)
            | (refine store_arr rfl 99 _ _ rfl Wa.heap.size (arrW 8 (madeF f m)) rfl rfl _ _ HR3.out (by rw [arrW_size]; exact s8) (by rw [arrW_size, arrW_size]) (arrW_one _ _) ?_; intro W9 B_ G_ S_; have B9 := Lib.hid B_; have G9 := Lib.hid G_; clear B_ G_ S_))
          (try simp only [Exit.inBlock, Exit.then])
          refine bodyPost_ret (results_cell_row rfl _ _ Wa.heap.size _ (arrW 8 (madeF f m)) (0, 0) _ rfl B9.out Try.underlying99 rfl (by rw [arrW_size]; exact s8)) rfl ?_
          exact ⟨rfl, bl_of_grown LW2.out G9.out (zero_lt_of (by have := HS.out; omega) rfl)⟩
end Go.Proofs.Ytpklkjekkbpeoaa
