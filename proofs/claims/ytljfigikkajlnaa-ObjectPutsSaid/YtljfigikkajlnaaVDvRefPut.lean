/- DERIVED. The document's Put. -/
import Derived.Test.YtljfigikkajlnaaVDvPut
import Derived.Test.YtljfigikkajlnaaVDvRefValid
import Derived.Test.YtljfigikkajlnaaVm13
namespace Go.Proofs.Ytljfigikkajlnaa
open Go.RowKit
set_option linter.unusedVariables false
set_option linter.unusedSimpArgs false
set_option maxRecDepth 100000 in
set_option maxHeartbeats 25600000 in
theorem refPut_any (A B C : Option Addr) (c1 c2 c3 : Nat) (s : List Dot) (l : List Sib) (ctx : List Dot) (a : Int) (v : ByteArray) (g : Bool) (w : World) (hs : GR.Rd dotK w A s) (hl : GR.Rd sibK w B l) (hc : GR.Rd dotK w C ctx)
    (ns : ∀ d ∈ s, 0 ≤ d.n) (nl : ∀ x ∈ l, 0 ≤ x.d.n) (nc : ∀ d ∈ ctx, 0 ≤ d.n) :
    Calls Try.prog 36 #[.agg #[.slice A s.length c1, .slice B l.length c2], .slice C ctx.length c3, .int .u32 a, .string v, .bool g] w
      fun e w' => ∃ v1 v2, e = .returned (.tuple #[.agg #[v1, v2], .agg #[.int .u32 (putD s l ctx a v g).a, .int .u64 (putD s l ctx a v g).n], .int .i64 (putE s l ctx a v g)]) ∧ OwnS w' w.heap.size v1 v2 (putA s l ctx a v g) (putL s l ctx a v g) ∧ Below w.heap.size w w' := by
  obtain ⟨j0, hj0, jz0, jz1, jz2⟩ := info_parts sib_info
  have hml : l.length * 40 ≤ 140737488355328 := hl.max
  have HS1 := Lib.hid hs
  have HL1 := Lib.hid hl
  have HC1 := Lib.hid hc
  have NS := Lib.hid ns
  have NL := Lib.hid nl
  have NC := Lib.hid nc
  clear hs hl hc ns nl nc
  go_enter Try.func36, Try.ntmps36
  go_wp2_with fail
  obtain ⟨W1, hW1⟩ : ∃ W1 : World, W1 = ((w.alloc (.cells #[.slice A s.length c1, .slice B l.length c2] 25)).alloc (.cells #[.slice none 0 0, .slice none 0 0] 25)).alloc (.cells #[.int .u32 0, .int .u64 0] 41) := ⟨_, rfl⟩
  rw [← hW1]
  have LW : Hid (Below w.heap.size w W1) := Lib.hid (by rw [hW1]; exact (by repeat (first | exact Below.refl _ _ | refine bl_drewN ?_ _ | refine bl_drew ?_ | refine bl_alloc ?_ _)))
  have XA : Hid (GR.Blk W1 w.heap.size 25 #[.slice A s.length c1, .slice B l.length c2]) := Lib.hid (by rw [hW1]; exact ((GR.Blk.new _ _ _).alloc _).alloc _)
  have XB : Hid (GR.Blk W1 (w.heap.size + 1) 25 #[.slice none 0 0, .slice none 0 0]) := Lib.hid (by rw [hW1]; exact (new_at _ _ _ (by simp)).alloc _)
  have XC : Hid (GR.Blk W1 (w.heap.size + 1 + 1) 41 #[.int .u32 0, .int .u64 0]) := Lib.hid (by rw [hW1]; exact new_at _ _ _ (by simp))
  clear hW1
  have F1 := Lib.hid (HS.nil W1)
  have F2 := Lib.hid (HS.addB F1.out (g := w.heap.size) (t := 25) (cs := #[.slice A s.length c1, .slice B l.length c2]) (XA.out))
  clear F1
  have F3 := Lib.hid (HS.addB F2.out (g := w.heap.size + 1) (t := 25) (cs := #[.slice none 0 0, .slice none 0 0]) (XB.out))
  clear F2
  have F4 := Lib.hid (HS.addB F3.out (g := w.heap.size + 1 + 1) (t := 41) (cs := #[.int .u32 0, .int .u64 0]) (XC.out))
  clear F3
  have F5 := Lib.hid (F4.out.addR (HS1.out.below LW.out))
  clear F4
  have F6 := Lib.hid (F5.out.addR (HL1.out.below LW.out))
  clear F5
  have F7 := Lib.hid (F6.out.addR (HC1.out.below LW.out))
  clear F6
  have LW1 : Hid (w.heap.size + 1 + 1 < W1.heap.size) := Lib.hid XC.out.lt
  clear XA XB XC
  have BB := Lib.hid (Below.refl W1.heap.size W1)
  have ps_0 : W1.cell? ⟨w.heap.size, 0, none⟩ = some (.slice A s.length c1) := (F7.out.blk 5 rfl).cell 0
  have ps_1 : W1.cell? ⟨w.heap.size, 1, none⟩ = some (.slice B l.length c2) := (F7.out.blk 5 rfl).cell 1
  go_wp2_with fail
  clear ps_0 ps_1
  by_cases h1 : staB s l = false
  · skip
    refine (refSta_any A B c1 c2 s l _ (F7.out.rd 2 rfl) (F7.out.rd 1 rfl) NS.out NL.out).mono ?_
    rintro e w2 ⟨rfl, hb⟩
    have F8 := Lib.hid (F7.out.below hb)
    clear F7
    replace BB := Lib.hid (bl_then BB.out hb)
    clear hb
    rw [h1]
    have H1 := Lib.hid h1
    clear h1
    have ps_0 : w2.cell? ⟨w.heap.size, 0, none⟩ = some (.slice A s.length c1) := (F8.out.blk 5 rfl).cell 0
    have ps_1 : w2.cell? ⟨w.heap.size, 1, none⟩ = some (.slice B l.length c2) := (F8.out.blk 5 rfl).cell 1
    have HV := Lib.hid (put_sta (ctx := ctx) (a := a) (v := v) (g := g) H1.out)
    have pr_0 : w2.cell? ⟨w.heap.size + 1, 0, none⟩ = some (.slice none 0 0) := (F8.out.blk 4 rfl).cell 0
    have pr_1 : w2.cell? ⟨w.heap.size + 1, 1, none⟩ = some (.slice none 0 0) := (F8.out.blk 4 rfl).cell 1
    have pd_0 : w2.cell? ⟨w.heap.size + 1 + 1, 0, none⟩ = some (.int .u32 0) := (F8.out.blk 3 rfl).cell 0
    have pd_1 : w2.cell? ⟨w.heap.size + 1 + 1, 1, none⟩ = some (.int .u64 0) := (F8.out.blk 3 rfl).cell 1
    have pr_f0 := (F8.out.blk 4 rfl).frozen 0
    have pr_f1 := (F8.out.blk 4 rfl).frozen 1
    have pd_f0 := (F8.out.blk 3 rfl).frozen 0
    have pd_f1 := (F8.out.blk 3 rfl).frozen 1
    go_wp2
    try rw [Exit.noGoto_ret]
    exact bodyPost_ret (v := .tuple #[.agg #[.slice none 0 0, .slice none 0 0], .agg #[.int .u32 0, .int .u64 0], .int .i64 110]) (by simp [results, Try.results36, go_sem, pr_0, pr_1, pd_0, pd_1, pr_f0, pr_f1, pd_f0, pd_f1]) rfl ⟨_, _, put_ret0 HV.out, put_own0 HV.out _ _, (by repeat (first | exact bl_then LW.out BB.out | refine bl_drewN ?_ _ | refine bl_drew ?_ | refine bl_alloc ?_ _ | refine Below.setCell ?_ (by simp <;> omega) _))⟩
  · replace h1 : staB s l = true := by simpa using h1
    refine (refSta_any A B c1 c2 s l _ (F7.out.rd 2 rfl) (F7.out.rd 1 rfl) NS.out NL.out).mono ?_
    rintro e w2 ⟨rfl, hb⟩
    have F9 := Lib.hid (F7.out.below hb)
    clear F7
    replace BB := Lib.hid (bl_then BB.out hb)
    clear hb
    rw [h1]
    have H1 := Lib.hid h1
    clear h1
    have ps_0 : w2.cell? ⟨w.heap.size, 0, none⟩ = some (.slice A s.length c1) := (F9.out.blk 5 rfl).cell 0
    have ps_1 : w2.cell? ⟨w.heap.size, 1, none⟩ = some (.slice B l.length c2) := (F9.out.blk 5 rfl).cell 1
    go_wp2_with fail
    clear ps_0 ps_1
    by_cases h2 : vecB ctx = false
    · skip
      refine (refVec_bl C c3 ctx _ (F9.out.rd 0 rfl) NC.out).mono ?_
      rintro e w3 ⟨rfl, hb⟩
      have F10 := Lib.hid (F9.out.below hb)
      clear F9
      replace BB := Lib.hid (bl_then BB.out hb)
      clear hb
      rw [h2]
      have H2 := Lib.hid h2
      clear h2
      have ps_0 : w3.cell? ⟨w.heap.size, 0, none⟩ = some (.slice A s.length c1) := (F10.out.blk 5 rfl).cell 0
      have ps_1 : w3.cell? ⟨w.heap.size, 1, none⟩ = some (.slice B l.length c2) := (F10.out.blk 5 rfl).cell 1
      have HV := Lib.hid (put_vec (a := a) (v := v) (g := g) H1.out H2.out)
      have pr_0 : w3.cell? ⟨w.heap.size + 1, 0, none⟩ = some (.slice none 0 0) := (F10.out.blk 4 rfl).cell 0
      have pr_1 : w3.cell? ⟨w.heap.size + 1, 1, none⟩ = some (.slice none 0 0) := (F10.out.blk 4 rfl).cell 1
      have pd_0 : w3.cell? ⟨w.heap.size + 1 + 1, 0, none⟩ = some (.int .u32 0) := (F10.out.blk 3 rfl).cell 0
      have pd_1 : w3.cell? ⟨w.heap.size + 1 + 1, 1, none⟩ = some (.int .u64 0) := (F10.out.blk 3 rfl).cell 1
      have pr_f0 := (F10.out.blk 4 rfl).frozen 0
      have pr_f1 := (F10.out.blk 4 rfl).frozen 1
      have pd_f0 := (F10.out.blk 3 rfl).frozen 0
      have pd_f1 := (F10.out.blk 3 rfl).frozen 1
      go_wp2
      try rw [Exit.noGoto_ret]
      exact bodyPost_ret (v := .tuple #[.agg #[.slice none 0 0, .slice none 0 0], .agg #[.int .u32 0, .int .u64 0], .int .i64 100]) (by simp [results, Try.results36, go_sem, pr_0, pr_1, pd_0, pd_1, pr_f0, pr_f1, pd_f0, pd_f1]) rfl ⟨_, _, put_ret0 HV.out, put_own0 HV.out _ _, (by repeat (first | exact bl_then LW.out BB.out | refine bl_drewN ?_ _ | refine bl_drew ?_ | refine bl_alloc ?_ _ | refine Below.setCell ?_ (by simp <;> omega) _))⟩
    · replace h2 : vecB ctx = true := by simpa using h2
      refine (refVec_bl C c3 ctx _ (F9.out.rd 0 rfl) NC.out).mono ?_
      rintro e w3 ⟨rfl, hb⟩
      have F11 := Lib.hid (F9.out.below hb)
      clear F9
      replace BB := Lib.hid (bl_then BB.out hb)
      clear hb
      rw [h2]
      have H2 := Lib.hid h2
      clear h2
      have ps_0 : w3.cell? ⟨w.heap.size, 0, none⟩ = some (.slice A s.length c1) := (F11.out.blk 5 rfl).cell 0
      have ps_1 : w3.cell? ⟨w.heap.size, 1, none⟩ = some (.slice B l.length c2) := (F11.out.blk 5 rfl).cell 1
      by_cases h3 : 40 < v.size
      · have H3 : Hid (valB v g = false) := Lib.hid (by simp [valB]; omega)
        have v1 : decide (40 < (v.size : Int)) = true := by simp; omega
        have v2 : decide (40 < v.size) = true := by simp; omega
        clear h3
        have HV := Lib.hid (put_val (ctx := ctx) (a := a) H1.out H2.out H3.out)
        have pr_0 : w3.cell? ⟨w.heap.size + 1, 0, none⟩ = some (.slice none 0 0) := (F11.out.blk 4 rfl).cell 0
        have pr_1 : w3.cell? ⟨w.heap.size + 1, 1, none⟩ = some (.slice none 0 0) := (F11.out.blk 4 rfl).cell 1
        have pd_0 : w3.cell? ⟨w.heap.size + 1 + 1, 0, none⟩ = some (.int .u32 0) := (F11.out.blk 3 rfl).cell 0
        have pd_1 : w3.cell? ⟨w.heap.size + 1 + 1, 1, none⟩ = some (.int .u64 0) := (F11.out.blk 3 rfl).cell 1
        have pr_f0 := (F11.out.blk 4 rfl).frozen 0
        have pr_f1 := (F11.out.blk 4 rfl).frozen 1
        have pd_f0 := (F11.out.blk 3 rfl).frozen 0
        have pd_f1 := (F11.out.blk 3 rfl).frozen 1
        go_wp2
        try rw [Exit.noGoto_ret]
        exact bodyPost_ret (v := .tuple #[.agg #[.slice none 0 0, .slice none 0 0], .agg #[.int .u32 0, .int .u64 0], .int .i64 131]) (by simp [results, Try.results36, go_sem, pr_0, pr_1, pd_0, pd_1, pr_f0, pr_f1, pd_f0, pd_f1]) rfl ⟨_, _, put_ret0 HV.out, put_own0 HV.out _ _, (by repeat (first | exact bl_then LW.out BB.out | refine bl_drewN ?_ _ | refine bl_drew ?_ | refine bl_alloc ?_ _ | refine Below.setCell ?_ (by simp <;> omega) _))⟩
      · skip
        have v1 : decide (40 < (v.size : Int)) = false := by simp; omega
        have v2 : decide (40 < v.size) = false := by simp; omega
        by_cases h4 : g = true ∧ v.size ≠ 0
        · obtain ⟨rfl, h5⟩ := h4
          obtain ⟨v3, v4⟩ := nonempty_str h5
          have H3 : Hid (valB v true = false) := Lib.hid (by simp [valB, h5])
          clear h5 h3
          have HV := Lib.hid (put_val (ctx := ctx) (a := a) H1.out H2.out H3.out)
          have pr_0 : w3.cell? ⟨w.heap.size + 1, 0, none⟩ = some (.slice none 0 0) := (F11.out.blk 4 rfl).cell 0
          have pr_1 : w3.cell? ⟨w.heap.size + 1, 1, none⟩ = some (.slice none 0 0) := (F11.out.blk 4 rfl).cell 1
          have pd_0 : w3.cell? ⟨w.heap.size + 1 + 1, 0, none⟩ = some (.int .u32 0) := (F11.out.blk 3 rfl).cell 0
          have pd_1 : w3.cell? ⟨w.heap.size + 1 + 1, 1, none⟩ = some (.int .u64 0) := (F11.out.blk 3 rfl).cell 1
          have pr_f0 := (F11.out.blk 4 rfl).frozen 0
          have pr_f1 := (F11.out.blk 4 rfl).frozen 1
          have pd_f0 := (F11.out.blk 3 rfl).frozen 0
          have pd_f1 := (F11.out.blk 3 rfl).frozen 1
          go_wp2
          try rw [Exit.noGoto_ret]
          exact bodyPost_ret (v := .tuple #[.agg #[.slice none 0 0, .slice none 0 0], .agg #[.int .u32 0, .int .u64 0], .int .i64 131]) (by simp [results, Try.results36, go_sem, pr_0, pr_1, pd_0, pd_1, pr_f0, pr_f1, pd_f0, pd_f1]) rfl ⟨_, _, put_ret0 HV.out, put_own0 HV.out _ _, (by repeat (first | exact bl_then LW.out BB.out | refine bl_drewN ?_ _ | refine bl_drew ?_ | refine bl_alloc ?_ _ | refine Below.setCell ?_ (by simp <;> omega) _))⟩
        · have H3 := Lib.hid (val_ok h3 h4)
          have h5 := val_or h4
          clear h3 h4
          have HB1 := Lib.hid (cnt_bound s a)
          have HB2 := Lib.hid (cnt_bound ctx a)
          go_upto_region 5 with fail
          go_cut [41] from 32 (fun s41 wx => s41 = .bool false ∧ wx = w3)
          case first =>
            rcases h5 with rfl | ⟨rfl, h5⟩
            · go_wp2_with fail
              go_meet
              exact ⟨rfl, rfl⟩
            · obtain ⟨v3, v4⟩ := empty_str h5
              clear h5
              go_wp2_with fail
              go_meet
              exact ⟨rfl, rfl⟩
          case rest =>
            obtain ⟨rfl, hwc⟩ := hcut
            have hwd := hwc.symm
            clear hwc
            subst hwd
            clear h5 v1 v2
            have ps_0 : w3.cell? ⟨w.heap.size, 0, none⟩ = some (.slice A s.length c1) := (F11.out.blk 5 rfl).cell 0
            have ps_1 : w3.cell? ⟨w.heap.size, 1, none⟩ = some (.slice B l.length c2) := (F11.out.blk 5 rfl).cell 1
            go_upto_region 7 with fail
            go_cut [13] from 44 (fun s13 wx => s13 = .int .u64 (putN s ctx a) ∧ Hid (Below w3.heap.size w3 wx))
            case first =>
              go_wp2_with fail
              clear ps_0 ps_1
              refine (refCount_bl A c1 s a _ (F11.out.rd 2 rfl) NS.out).mono ?_
              rintro e w4 ⟨rfl, hb⟩
              have F12 := Lib.hid (F11.out.below hb)
              clear F11
              have BW3 : Hid (Below w3.heap.size w3 w4) := Lib.hid hb
              clear hb
              go_wp2_with fail
              refine (refCount_bl C c3 ctx a _ (F12.out.rd 0 rfl) NC.out).mono ?_
              rintro e w5 ⟨rfl, hb⟩
              have BB5 := Lib.hid (bl_then BW3.out hb)
              clear hb
              have HM : Hid ((cnt s a ≤ cnt ctx a ∧ putN s ctx a = cnt ctx a) ∨ (cnt ctx a < cnt s a ∧ putN s ctx a = cnt s a)) := Lib.hid (by unfold putN; omega)
              have e1 : 0 ≤ cnt s a := HB1.out.1
              have e2 : cnt s a ≤ 1099511627776 := HB1.out.2
              have e3 : 0 ≤ cnt ctx a := HB2.out.1
              have e4 : cnt ctx a ≤ 1099511627776 := HB2.out.2
              have e5 : IntKind.u64.wrap (cnt ctx a + 1) = cnt ctx a + 1 := IntWalk.u64_in _ (by omega)
              have e6 : IntKind.u64.wrap (cnt s a + 1) = cnt s a + 1 := IntWalk.u64_in _ (by omega)
              go_wp2_with fail
              all_goals
                go_meet
                exact ⟨congrArg (Value.int .u64) (by have := HM.out; omega), Lib.hid (BB5.out)⟩
            case rest =>
              obtain ⟨rfl, hb⟩ := hcut
              obtain ⟨w5c, hw5c⟩ : ∃ x : World, x = wc := ⟨_, rfl⟩
              subst hw5c
              have F13 := Lib.hid (F11.out.below hb.out)
              clear F11
              replace BB := Lib.hid (bl_then BB.out hb.out)
              have HWS := Lib.hid (BB.out.size : W1.heap.size ≤ w5c.heap.size)
              clear hb
              have HPN := Lib.hid (putN_bound s ctx a)
              by_cases h4 : 1099511627776 ≤ putN s ctx a
              · have g1 : decide (1099511627776 ≤ putN s ctx a) = true := by simp; omega
                have H4 := Lib.hid h4
                clear h4
                have ps_0 : w5c.cell? ⟨w.heap.size, 0, none⟩ = some (.slice A s.length c1) := (F13.out.blk 5 rfl).cell 0
                have ps_1 : w5c.cell? ⟨w.heap.size, 1, none⟩ = some (.slice B l.length c2) := (F13.out.blk 5 rfl).cell 1
                have HV := Lib.hid (put_end H1.out H2.out H3.out H4.out)
                have pr_0 : w5c.cell? ⟨w.heap.size + 1, 0, none⟩ = some (.slice none 0 0) := (F13.out.blk 4 rfl).cell 0
                have pr_1 : w5c.cell? ⟨w.heap.size + 1, 1, none⟩ = some (.slice none 0 0) := (F13.out.blk 4 rfl).cell 1
                have pd_0 : w5c.cell? ⟨w.heap.size + 1 + 1, 0, none⟩ = some (.int .u32 0) := (F13.out.blk 3 rfl).cell 0
                have pd_1 : w5c.cell? ⟨w.heap.size + 1 + 1, 1, none⟩ = some (.int .u64 0) := (F13.out.blk 3 rfl).cell 1
                have pr_f0 := (F13.out.blk 4 rfl).frozen 0
                have pr_f1 := (F13.out.blk 4 rfl).frozen 1
                have pd_f0 := (F13.out.blk 3 rfl).frozen 0
                have pd_f1 := (F13.out.blk 3 rfl).frozen 1
                go_wp2
                try rw [Exit.noGoto_ret]
                exact bodyPost_ret (v := .tuple #[.agg #[.slice none 0 0, .slice none 0 0], .agg #[.int .u32 0, .int .u64 0], .int .i64 101]) (by simp [results, Try.results36, go_sem, pr_0, pr_1, pd_0, pd_1, pr_f0, pr_f1, pd_f0, pd_f1]) rfl ⟨_, _, put_ret0 HV.out, put_own0 HV.out _ _, (by repeat (first | exact bl_then LW.out BB.out | refine bl_drewN ?_ _ | refine bl_drew ?_ | refine bl_alloc ?_ _ | refine Below.setCell ?_ (by simp <;> omega) _))⟩
              · skip
                have g1 : decide (1099511627776 ≤ putN s ctx a) = false := by simp; omega
                have g2 : IntKind.u64.wrap (putN s ctx a + 1) = putN s ctx a + 1 := IntWalk.u64_in _ (by have := HPN.out; omega)
                have H4 : Hid (putN s ctx a < 1099511627776) := Lib.hid (by omega)
                clear h4
                have ps_0 : w5c.cell? ⟨w.heap.size, 0, none⟩ = some (.slice A s.length c1) := (F13.out.blk 5 rfl).cell 0
                have ps_1 : w5c.cell? ⟨w.heap.size, 1, none⟩ = some (.slice B l.length c2) := (F13.out.blk 5 rfl).cell 1
                have ps_lt : w.heap.size < w5c.heap.size := (F13.out.blk 5 rfl).lt
                go_wp2_with fail
                clear ps_0 ps_1 ps_lt
                obtain ⟨W6, hW6⟩ : ∃ W : World, W = w5c.alloc (.cells #[.int .u32 a, .int .u64 (putN s ctx a + 1)] 41) := ⟨_, rfl⟩
                rw [← hW6]
                have L6 : Hid (Below w5c.heap.size w5c W6) := Lib.hid (by rw [hW6]; exact (by repeat (first | exact Below.refl _ _ | refine bl_drewN ?_ _ | refine bl_drew ?_ | refine bl_alloc ?_ _)))
                have X6 : Hid (GR.Blk W6 w5c.heap.size 41 #[.int .u32 a, .int .u64 (putN s ctx a + 1)]) := Lib.hid (by rw [hW6]; exact GR.Blk.new _ _ _)
                clear hW6 g1 g2
                have F14 := Lib.hid (F13.out.below L6.out)
                clear F13
                replace BB := Lib.hid (bl_then BB.out L6.out)
                have HWC : Hid (w.heap.size + 1 + 1 < w5c.heap.size) := Lib.hid (by have h1 := LW1.out; have h2 := HWS.out; omega)
                have F15 := Lib.hid (HS.addB F14.out (g := w5c.heap.size) (t := 41) (cs := #[.int .u32 a, .int .u64 (putN s ctx a + 1)]) (X6.out))
                clear F14
                refine (refMax_any A C c1 c3 s ctx _ (F15.out.rd 3 rfl) (F15.out.rd 1 rfl) NS.out NC.out).mono ?_
                rintro e w7 ⟨vx, rfl, ho, hb⟩
                have F16 := Lib.hid (F15.out.below hb)
                clear F15
                replace BB := Lib.hid (bl_then BB.out hb)
                clear hb
                have HW7 : W1.heap.size ≤ w7.heap.size := BB.out.size
                rcases max_err (sta_ok H1.out).1 H2.out with ⟨hx, hxe, hxl⟩ | ⟨hx, hxe⟩
                · rw [hxe]
                  rw [hxl] at ho
                  have H5 : Hid (¬ 64 < (vmax s ctx).length) := Lib.hid (by omega)
                  obtain ⟨As, ns', cs, rfl⟩ := own_slice ho (by show (vmax s ctx).length * 16 ≤ _; omega)
                  obtain rfl : ns' = (vmax s ctx).length := own_n' ho
                  have HV1 := Lib.hid (vmax_vec (sta_ok H1.out).1 H2.out hx)
                  have CS := Lib.hid (GR.Own.rd ho (show (vmax s ctx).length * 16 ≤ 140737488355328 by omega)).2.1
                  have RS := Lib.hid (GR.Own.rd ho (show (vmax s ctx).length * 16 ≤ 140737488355328 by omega)).2.2
                  clear ho hx hxe hxl
                  have F17 := Lib.hid (F16.out.addR (RS.out))
                  clear F16
                  have pz_0 : w7.cell? ⟨w5c.heap.size, 0, none⟩ = some (.int .u32 a) := (F17.out.blk 1 rfl).cell 0
                  have pz_1 : w7.cell? ⟨w5c.heap.size, 1, none⟩ = some (.int .u64 (putN s ctx a + 1)) := (F17.out.blk 1 rfl).cell 1
                  have pz_lt : w5c.heap.size < w7.heap.size := (F17.out.blk 1 rfl).lt
                  go_wp2_with fail
                  clear pz_0 pz_1 pz_lt
                  obtain ⟨W8, hW8⟩ : ∃ W : World, W = w7.alloc (.cells #[.int .u32 a, .int .u64 (putN s ctx a + 1)] 41) := ⟨_, rfl⟩
                  rw [← hW8]
                  have L8 : Hid (Below w7.heap.size w7 W8) := Lib.hid (by rw [hW8]; exact (by repeat (first | exact Below.refl _ _ | refine bl_drewN ?_ _ | refine bl_drew ?_ | refine bl_alloc ?_ _)))
                  have R8 : Hid (GR.Rd dotK W8 (some ⟨w7.heap.size, 0, none⟩) [putDot s ctx a]) := Lib.hid (by rw [hW8]; exact GR.rd_new (K := dotK) (putDot s ctx a) rfl (by show 16 ≤ 140737488355328; omega))
                  clear hW8
                  have F18 := Lib.hid (F17.out.below L8.out)
                  clear F17
                  replace BB := Lib.hid (bl_then BB.out L8.out)
                  have F19 := Lib.hid (F18.out.addR (R8.out))
                  clear F18
                  have DV := Lib.hid (dot_vec (x := putDot s ctx a) (show 1 ≤ putN s ctx a + 1 by have := HPN.out; omega) (show putN s ctx a + 1 ≤ 1099511627776 by have := H4.out; omega))
                  refine (refMax_any As (some ⟨w7.heap.size, 0, none⟩) cs 1 (vmax s ctx) [putDot s ctx a] _ (F19.out.rd 1 rfl) (F19.out.rd 0 rfl) (vmax_pos _ _ NS.out NC.out) (fun d hd => by rw [List.mem_singleton.1 hd]; show 0 ≤ putN s ctx a + 1; have := HPN.out; omega)).mono ?_
                  rintro e w9 ⟨vx, rfl, ho, hb⟩
                  have F20 := Lib.hid (F19.out.below hb)
                  clear F19
                  replace BB := Lib.hid (bl_then BB.out hb)
                  clear hb
                  rcases max_err HV1.out DV.out with ⟨hx, hxe, hxl⟩ | ⟨hx, hxe⟩
                  · rw [hxe]
                    rw [hxl] at ho
                    have H6 : Hid (¬ 64 < (vmax (vmax s ctx) [putDot s ctx a]).length) := Lib.hid (by omega)
                    obtain ⟨Am, nm', cm, rfl⟩ := own_slice ho (by show (vmax (vmax s ctx) [putDot s ctx a]).length * 16 ≤ _; omega)
                    obtain rfl : nm' = (vmax (vmax s ctx) [putDot s ctx a]).length := own_n' ho
                    have OM : Hid (GR.Own dotK w9 W1.heap.size (.slice Am (vmax (vmax s ctx) [putDot s ctx a]).length cm) (vmax (vmax s ctx) [putDot s ctx a])) := Lib.hid (ho.base (by have h1 : W1.heap.size ≤ w7.heap.size := HW7; have h2 := L8.out.size; omega))
                    clear ho hx hxe hxl
                    have F21 := Lib.hid (F20.out.addW (OM.out))
                    clear F20
                    have pz_0 : w9.cell? ⟨w5c.heap.size, 0, none⟩ = some (.int .u32 a) := (F21.out.blk 3 rfl).cell 0
                    have pz_1 : w9.cell? ⟨w5c.heap.size, 1, none⟩ = some (.int .u64 (putN s ctx a + 1)) := (F21.out.blk 3 rfl).cell 1
                    have pz_lt : w5c.heap.size < w9.heap.size := (F21.out.blk 3 rfl).lt
                    have ps_lt : w.heap.size < w9.heap.size := (F21.out.blk 9 rfl).lt
                    have PZ9 := Lib.hid pz_lt
                    go_wp2
                    clear pz_0 pz_1 pz_lt
                    clear ps_lt
                    obtain ⟨W10, hW10⟩ : ∃ W : World, W = (w9.alloc (.cells #[.slice Am (vmax (vmax s ctx) [putDot s ctx a]).length cm, .slice none 0 0] 25)).alloc (.cells #[.int .u32 a, .int .u64 (putN s ctx a + 1), .bool g, .string v] 67) := ⟨_, rfl⟩
                    rw [← hW10]
                    have L10 : Hid (Below w9.heap.size w9 W10) := Lib.hid (by rw [hW10]; exact (by repeat (first | exact Below.refl _ _ | refine bl_drewN ?_ _ | refine bl_drew ?_ | refine bl_alloc ?_ _)))
                    have XO : Hid (GR.Blk W10 w9.heap.size 25 #[.slice Am (vmax (vmax s ctx) [putDot s ctx a]).length cm, .slice none 0 0]) := Lib.hid (by rw [hW10]; exact (GR.Blk.new _ _ _).alloc _)
                    have XX : Hid (GR.Blk W10 (w9.heap.size + 1) 67 #[.int .u32 a, .int .u64 (putN s ctx a + 1), .bool g, .string v]) := Lib.hid (by rw [hW10]; exact new_at _ _ _ (by simp))
                    have S10 : w9.heap.size + 1 < W10.heap.size := XX.out.lt
                    clear hW10
                    have HPR := Lib.hid (putR_false ctx (putX s ctx a v g) l (put_new H1.out))
                    have hl64 : l.length ≤ 64 := (sta_ok H1.out).2.1
                    go_loopw [19, 20] (fun p0 i w' => ∃ (k : Nat) (p : Bool) (vo : Value) (acc : List Sib), p0 = .bool p ∧ i = .int .i64 k ∧ k ≤ l.length ∧ Hid (acc ++ putR ctx (putX s ctx a v g) (l.drop k) p = putR ctx (putX s ctx a v g) l false) ∧ acc.length ≤ k + p.toNat ∧ Hid (GR.Blk w' w9.heap.size 25 #[.slice Am (vmax (vmax s ctx) [putDot s ctx a]).length cm, vo]) ∧ Hid (GR.Own sibK w' W10.heap.size vo acc) ∧ Hid (Chg (fun b => b = w9.heap.size) W10 w')) (fun _ i _ => l.length - (intOf i).toNat)
                    case atStart => exact ⟨0, false, .slice none 0 0, [], rfl, rfl, Nat.zero_le _, Lib.hid (by simp), by simp, XO, Lib.hid (GR.Own.nil _ _ _), Lib.hid (Chg.refl _ _)⟩
                    case round =>
                      obtain ⟨k, p, vo, acc, rfl, rfl, hk, hacc, hal, bo, ho, hc⟩ := hrel
                      have hb9 : Hid (Below w9.heap.size w9 wr) := Lib.hid (L10.out.trans (hc.out.below (Nat.le_of_lt (by omega)) (fun b hb => Nat.le_of_eq hb.symm)))
                      have hbs : W10.heap.size ≤ wr.heap.size := hc.out.size
                      have hlo : w9.heap.size < wr.heap.size := bo.out.lt
                      by_cases hlt : k < l.length
                      · skip
                        have F22 := Lib.hid (F21.out.below hb9.out)
                        clear F21
                        have ps_0 : wr.cell? ⟨w.heap.size, 0, none⟩ = some (.slice A s.length c1) := (F22.out.blk 9 rfl).cell 0
                        have ps_1 : wr.cell? ⟨w.heap.size, 1, none⟩ = some (.slice B l.length c2) := (F22.out.blk 9 rfl).cell 1
                        have pz_0 : wr.cell? ⟨w5c.heap.size, 0, none⟩ = some (.int .u32 a) := (F22.out.blk 3 rfl).cell 0
                        have pz_1 : wr.cell? ⟨w5c.heap.size, 1, none⟩ = some (.int .u64 (putN s ctx a + 1)) := (F22.out.blk 3 rfl).cell 1
                        have ps_lt : w.heap.size < wr.heap.size := (F22.out.blk 9 rfl).lt
                        have pz_lt : w5c.heap.size < wr.heap.size := (F22.out.blk 3 rfl).lt
                        have i0 : (0 : Int) ≤ (k : Int) := by omega
                        have i1 : (k : Int) < (l.length : Int) := by omega
                        obtain ⟨ad, eB, _, x0, x1, x2, x3⟩ := sib_at (F22.out.rd 5 rfl) k hlt
                        subst eB
                        have hd := putR_drop (ctx := ctx) (x := putX s ctx a v g) hlt p
                        go_wp2_with fail
                        obtain ⟨W11, hW11⟩ : ∃ W : World, W = wr.alloc (.cells #[.int .u32 l[k].d.a, .int .u64 l[k].d.n, .bool l[k].gone, .string l[k].v] 67) := ⟨_, rfl⟩
                        rw [← hW11]
                        have L11 : Hid (Below wr.heap.size wr W11) := Lib.hid (by rw [hW11]; exact (by repeat (first | exact Below.refl _ _ | refine bl_drewN ?_ _ | refine bl_drew ?_ | refine bl_alloc ?_ _)))
                        have X11 : Hid (GR.Blk W11 wr.heap.size 67 #[.int .u32 l[k].d.a, .int .u64 l[k].d.n, .bool l[k].gone, .string l[k].v]) := Lib.hid (by rw [hW11]; exact GR.Blk.new _ _ _)
                        have HD := Lib.hid hd
                        clear hW11 x0 x1 x2 x3 hd ps_0 ps_1 pz_0 pz_1
                        have F23 := Lib.hid (F22.out.below L11.out)
                        clear F22
                        by_cases hcv : cov ctx l[k].d = true
                        · have HK := Lib.hid (show acc ++ putR ctx (putX s ctx a v g) (l.drop (k + 1)) p = putR ctx (putX s ctx a v g) l false by rw [← hacc.out, HD.out, if_pos hcv])
                          refine (refCovers_is C c3 ctx l[k].d true hcv _ (F23.out.rd 4 rfl) NC.out).mono ?_
                          rintro e w12 ⟨rfl, hb12⟩
                          have B12 := Lib.hid (bl_then L11.out hb12)
                          clear hb12 hcv
                          go_wp2
                          go_roundw
                          case rel => exact ⟨k + 1, p, vo, acc, rfl, by go_num, by omega, HK, by omega, Lib.hid (bo.out.below B12.out hlo), Lib.hid (ho.out.below B12.out), Lib.hid (hc.out.bl B12.out)⟩
                          case measure => simp [intOf]; omega
                        · have hcv' : cov ctx l[k].d = false := by simpa using hcv
                          clear hcv
                          refine (refCovers_is C c3 ctx l[k].d false hcv' _ (F23.out.rd 4 rfl) NC.out).mono ?_
                          rintro e w12 ⟨rfl, hb12⟩
                          have HCV := Lib.hid hcv'
                          clear hcv'
                          have B12 := Lib.hid (bl_then L11.out hb12)
                          have X12 := Lib.hid (X11.out.below hb12 X11.out.lt)
                          have F24 := Lib.hid (F23.out.below hb12)
                          clear F23
                          clear hb12
                          have bo12 := Lib.hid (bo.out.below B12.out hlo)
                          have ho12 := Lib.hid (ho.out.below B12.out)
                          have hc12 := Lib.hid (hc.out.bl B12.out)
                          have bx12 := Lib.hid (blk_chg XX.out hc12.out (by omega))
                          have y0 : w12.cell? ⟨wr.heap.size, 0, none⟩ = some (.int .u32 l[k].d.a) := X12.out.cell 0
                          have y1 : w12.cell? ⟨wr.heap.size, 1, none⟩ = some (.int .u64 l[k].d.n) := X12.out.cell 1
                          have y2 : w12.cell? ⟨wr.heap.size, 2, none⟩ = some (.bool l[k].gone) := X12.out.cell 2
                          have y3 : w12.cell? ⟨wr.heap.size, 3, none⟩ = some (.string l[k].v) := X12.out.cell 3
                          have hb12s : W10.heap.size ≤ w12.heap.size := hc12.out.size
                          have hne : wr.heap.size ≠ w9.heap.size := by omega
                          have hlw : wr.heap.size < w12.heap.size := X12.out.lt
                          have hl9 : w9.heap.size < w12.heap.size := bo12.out.lt
                          have m0 : w12.cell? ⟨w9.heap.size, 0, none⟩ = some (.slice Am (vmax (vmax s ctx) [putDot s ctx a]).length cm) := bo12.out.cell 0
                          have m1 : w12.cell? ⟨w9.heap.size, 1, none⟩ = some vo := bo12.out.cell 1
                          have mf := bo12.out.frozen 1
                          cases p
                          · have pz_0 : w12.cell? ⟨w5c.heap.size, 0, none⟩ = some (.int .u32 a) := (F24.out.blk 3 rfl).cell 0
                            have pz_1 : w12.cell? ⟨w5c.heap.size, 1, none⟩ = some (.int .u64 (putN s ctx a + 1)) := (F24.out.blk 3 rfl).cell 1
                            have pz_lt : w5c.heap.size < w12.heap.size := (F24.out.blk 3 rfl).lt
                            replace hal : acc.length ≤ k := hal
                            have w0 : w12.cell? ⟨w9.heap.size + 1, 0, none⟩ = some (.int .u32 a) := bx12.out.cell 0
                            have hlx : w9.heap.size + 1 < w12.heap.size := bx12.out.lt
                            clear w0
                            go_wp2_with fail
                            clear pz_0 pz_1 pz_lt
                            clear y0 y1 y2 y3 m0 m1 mf
                            by_cases hah : ltD (putX s ctx a v g).d l[k].d = true
                            · have HK := Lib.hid (show ((acc ++ [putX s ctx a v g]) ++ [l[k]]) ++ putR ctx (putX s ctx a v g) (l.drop (k + 1)) true = putR ctx (putX s ctx a v g) l false by
                                rw [← hacc.out, HD.out, if_neg (by rw [HCV.out]; simp), if_neg (by simp), if_pos hah]; simp)
                              refine (ahead_is (putDot s ctx a) l[k].d true hah _).mono ?_
                              rintro e w14 ⟨rfl, hb14⟩
                              clear hah
                              have bo14 := Lib.hid (bo12.out.below hb14 hl9)
                              have ho14 := Lib.hid (ho12.out.below hb14)
                              have hc14 := Lib.hid (hc12.out.bl hb14)
                              have bx14 := Lib.hid (bx12.out.below hb14 hlx)
                              have X14 := Lib.hid (X12.out.below hb14 hlw)
                              clear hb14
                              have y0 : w14.cell? ⟨wr.heap.size, 0, none⟩ = some (.int .u32 l[k].d.a) := X14.out.cell 0
                              have y1 : w14.cell? ⟨wr.heap.size, 1, none⟩ = some (.int .u64 l[k].d.n) := X14.out.cell 1
                              have y2 : w14.cell? ⟨wr.heap.size, 2, none⟩ = some (.bool l[k].gone) := X14.out.cell 2
                              have y3 : w14.cell? ⟨wr.heap.size, 3, none⟩ = some (.string l[k].v) := X14.out.cell 3
                              have w0 : w14.cell? ⟨w9.heap.size + 1, 0, none⟩ = some (.int .u32 a) := bx14.out.cell 0
                              have w1 : w14.cell? ⟨w9.heap.size + 1, 1, none⟩ = some (.int .u64 (putN s ctx a + 1)) := bx14.out.cell 1
                              have w2 : w14.cell? ⟨w9.heap.size + 1, 2, none⟩ = some (.bool g) := bx14.out.cell 2
                              have w3 : w14.cell? ⟨w9.heap.size + 1, 3, none⟩ = some (.string v) := bx14.out.cell 3
                              have m1 : w14.cell? ⟨w9.heap.size, 1, none⟩ = some vo := bo14.out.cell 1
                              have mf := bo14.out.frozen 1
                              have hs14 : W10.heap.size ≤ w14.heap.size := hc14.out.size
                              have hl14 : w9.heap.size < w14.heap.size := bo14.out.lt
                              have hx14 : w9.heap.size + 1 < w14.heap.size := bx14.out.lt
                              have hy14 : wr.heap.size < w14.heap.size := X14.out.lt
                              go_wp2_with (first
                                | (at_builtin
                                   refine GR.app_all (K := sibK) rfl (.tmp 111) (.tmp 113) _ rfl Try.underlying23 hj0 jz0 jz1 jz2 rfl W10.heap.size _ acc rfl (ho14.out.alloc _) _ 1 1 [putX s ctx a v g] rfl rfl (GR.rd_new (K := sibK) (putX s ctx a v g) rfl (by show 40 ≤ 140737488355328; omega)) (by show (acc.length + 1) * 40 ≤ _; omega) (Nat.le_trans hs14 (by simp)) ?_
                                   intro v15 w15 ho_ hg_ hat_
                                   obtain ⟨A15, n15, c15, rfl⟩ := own_slice ho_ (by rw [List.length_append]; show (acc.length + 1) * 40 ≤ _; omega)
                                   have O15 := Lib.hid ho_
                                   have G15 : Hid (Chg (fun b => vo.ownBlock = some b) w14 w15) := Lib.hid ((chg_bl (by repeat (first | exact Below.refl _ _ | refine bl_drewN ?_ _ | refine bl_drew ?_ | refine bl_alloc ?_ _))).then (chg_grown hg_ (fun b hb _ => hb)))
                                   clear ho_ hg_ hat_
                                   have bo15 := Lib.hid (blk_chg bo14.out G15.out (fun h => GR.own_blk_ne ho14.out bo14.out (by decide) h))
                                   have X15 := Lib.hid (blk_chg X14.out G15.out (fun h => absurd (ho.out.lt _ h).2 (Nat.lt_irrefl _)))
                                   have hc15 := Lib.hid (Chg.trans hc14.out G15.out (fun i hi h => absurd (ho14.out.lt i h).1 (Nat.not_le.2 hi)))
                                   have r0 : w15.cell? ⟨w9.heap.size, 1, none⟩ = some vo := bo15.out.cell 1
                                   have rf := bo15.out.frozen 1
                                   have z0 : w15.cell? ⟨wr.heap.size, 0, none⟩ = some (.int .u32 l[k].d.a) := X15.out.cell 0
                                   have z1 : w15.cell? ⟨wr.heap.size, 1, none⟩ = some (.int .u64 l[k].d.n) := X15.out.cell 1
                                   have z2 : w15.cell? ⟨wr.heap.size, 2, none⟩ = some (.bool l[k].gone) := X15.out.cell 2
                                   have z3 : w15.cell? ⟨wr.heap.size, 3, none⟩ = some (.string l[k].v) := X15.out.cell 3
                                   have hs15 : W10.heap.size ≤ w15.heap.size := hc15.out.size
                                   have hl15 : w9.heap.size < w15.heap.size := bo15.out.lt
                                   have hy15 : wr.heap.size < w15.heap.size := X15.out.lt)
                                | (at_builtin
                                   refine GR.app_all (K := sibK) rfl (.tmp 117) (.tmp 119) _ rfl Try.underlying23 hj0 jz0 jz1 jz2 rfl W10.heap.size _ (acc ++ [putX s ctx a v g]) rfl (GR.Own.alloc (own_farI O15.out bo15.out 1 _ (by decide)) _) _ 1 1 [l[k]] rfl rfl (GR.rd_new (K := sibK) l[k] (by simp [World.setCell]) (by show 40 ≤ 140737488355328; omega)) (by rw [List.length_append]; show (acc.length + 1 + 1) * 40 ≤ _; omega) (Nat.le_trans hs15 (by simp [World.setCell])) ?_
                                   intro v16 w16 ho_ hg_ hat_
                                   obtain ⟨A16, n16, c16, rfl⟩ := own_slice ho_ (by rw [List.length_append, List.length_append]; show (acc.length + 1 + 1) * 40 ≤ _; omega)
                                   have O16 := Lib.hid ho_
                                   have G16 : Hid (Chg (fun b => (Value.slice A15 n15 c15).ownBlock = some b) (w15.setCell ⟨w9.heap.size, 1, none⟩ (.slice A15 n15 c15)) w16) := Lib.hid ((chg_bl (by repeat (first | exact Below.refl _ _ | refine bl_drewN ?_ _ | refine bl_drew ?_ | refine bl_alloc ?_ _))).then (chg_grown hg_ (fun b hb _ => hb)))
                                   clear ho_ hg_ hat_
                                   have bo16 := Lib.hid (blk_chg (bo15.out.set_ 1 (.slice A15 n15 c15)) G16.out (fun h => GR.own_blk_ne O15.out bo15.out (by decide) h))
                                   have hc16 := Lib.hid (Chg.trans (hc15.out.then (chg_set (g := w9.heap.size) 1 (.slice A15 n15 c15) (.inl rfl))) G16.out (fun i hi h => absurd (O15.out.lt i h).1 (Nat.not_le.2 hi)))
                                   have r6 := bo16.out.cell 1
                                   replace r6 : w16.cell? ⟨w9.heap.size, 1, none⟩ = some (.slice A15 n15 c15) := r6
                                   have rf6 := bo16.out.frozen 1))
                              go_roundw
                              case rel => exact ⟨k + 1, true, _, (acc ++ [putX s ctx a v g]) ++ [l[k]], rfl, by go_num, by omega, HK, by show _ ≤ k + 1 + 1; simp; omega, Lib.hid (bo16.out.set_ 1 _), Lib.hid (own_farI O16.out bo16.out 1 _ (by decide)), Lib.hid (hc16.out.then (chg_set 1 _ (.inl rfl)))⟩
                              case measure => simp [intOf]; omega
                            · have hah' : ltD (putX s ctx a v g).d l[k].d = false := by simpa using hah
                              have HK := Lib.hid (show (acc ++ [l[k]]) ++ putR ctx (putX s ctx a v g) (l.drop (k + 1)) false = putR ctx (putX s ctx a v g) l false by
                                rw [← hacc.out, HD.out, if_neg (by rw [HCV.out]; simp), if_neg (by simp), if_neg (by rw [hah']; simp)]; simp)
                              refine (ahead_is (putDot s ctx a) l[k].d false hah' _).mono ?_
                              rintro e w14 ⟨rfl, hb14⟩
                              clear hah hah'
                              have bo14 := Lib.hid (bo12.out.below hb14 hl9)
                              have ho14 := Lib.hid (ho12.out.below hb14)
                              have hc14 := Lib.hid (hc12.out.bl hb14)
                              have bx14 := Lib.hid (bx12.out.below hb14 hlx)
                              have X14 := Lib.hid (X12.out.below hb14 hlw)
                              clear hb14
                              have y0 : w14.cell? ⟨wr.heap.size, 0, none⟩ = some (.int .u32 l[k].d.a) := X14.out.cell 0
                              have y1 : w14.cell? ⟨wr.heap.size, 1, none⟩ = some (.int .u64 l[k].d.n) := X14.out.cell 1
                              have y2 : w14.cell? ⟨wr.heap.size, 2, none⟩ = some (.bool l[k].gone) := X14.out.cell 2
                              have y3 : w14.cell? ⟨wr.heap.size, 3, none⟩ = some (.string l[k].v) := X14.out.cell 3
                              have w0 : w14.cell? ⟨w9.heap.size + 1, 0, none⟩ = some (.int .u32 a) := bx14.out.cell 0
                              have w1 : w14.cell? ⟨w9.heap.size + 1, 1, none⟩ = some (.int .u64 (putN s ctx a + 1)) := bx14.out.cell 1
                              have w2 : w14.cell? ⟨w9.heap.size + 1, 2, none⟩ = some (.bool g) := bx14.out.cell 2
                              have w3 : w14.cell? ⟨w9.heap.size + 1, 3, none⟩ = some (.string v) := bx14.out.cell 3
                              have m1 : w14.cell? ⟨w9.heap.size, 1, none⟩ = some vo := bo14.out.cell 1
                              have mf := bo14.out.frozen 1
                              have hs14 : W10.heap.size ≤ w14.heap.size := hc14.out.size
                              have hl14 : w9.heap.size < w14.heap.size := bo14.out.lt
                              have hx14 : w9.heap.size + 1 < w14.heap.size := bx14.out.lt
                              have hy14 : wr.heap.size < w14.heap.size := X14.out.lt
                              go_wp2_with (
                                 at_builtin
                                 refine GR.app_all (K := sibK) rfl (.tmp 117) (.tmp 119) _ rfl Try.underlying23 hj0 jz0 jz1 jz2 rfl W10.heap.size _ acc rfl (ho14.out.alloc _) _ 1 1 [l[k]] rfl rfl (GR.rd_new (K := sibK) (l[k]) (by simp [World.setCell]) (by show 40 ≤ 140737488355328; omega)) (by simp only [List.length_append, List.length_singleton]; show (_ + 1) * 40 ≤ _; omega) (by simp [World.setCell]; omega) ?_
                                 intro v13 w13 ho_ hg_ hat_
                                 obtain ⟨A13, n13, c13, rfl⟩ := own_slice ho_ (by simp only [List.length_append, List.length_singleton]; show (_ + 1) * 40 ≤ _; omega)
                                 have O13 := Lib.hid ho_
                                 have G13 : Hid (Chg (fun b => (vo).ownBlock = some b) w14 w13) := Lib.hid ((chg_bl (by repeat (first | exact Below.refl _ _ | refine bl_drewN ?_ _ | refine bl_drew ?_ | refine bl_alloc ?_ _))).then (chg_grown hg_ (fun b hb _ => hb)))
                                 clear ho_ hg_ hat_
                                 have bo13 := Lib.hid (blk_chg bo14.out G13.out (fun h => GR.own_blk_ne ho14.out bo14.out (by decide) h))
                                 have hc13 := Lib.hid (Chg.trans hc14.out G13.out (fun i hi h => absurd ((ho14.out).lt i h).1 (Nat.not_le.2 hi)))
                                 have r130 : w13.cell? ⟨w9.heap.size, 1, none⟩ = some vo := bo13.out.cell 1
                                 have r13f := bo13.out.frozen 1
                                 have hs13 : W10.heap.size ≤ w13.heap.size := hc13.out.size
                                 have hl13 : w9.heap.size < w13.heap.size := bo13.out.lt)
                              go_roundw
                              case rel => exact ⟨k + 1, false, _, acc ++ [l[k]], rfl, by go_num, by omega, HK, by show _ ≤ k + 1 + 0; simp; omega, Lib.hid (bo13.out.set_ 1 _), Lib.hid (own_farI O13.out bo13.out 1 _ (by decide)), Lib.hid (hc13.out.then (chg_set 1 _ (.inl rfl)))⟩
                              case measure => simp [intOf]; omega
                          · replace hal : acc.length ≤ k + 1 := hal
                            have HK := Lib.hid (show (acc ++ [l[k]]) ++ putR ctx (putX s ctx a v g) (l.drop (k + 1)) true = putR ctx (putX s ctx a v g) l false by
                              rw [← hacc.out, HD.out, if_neg (by rw [HCV.out]; simp), if_pos rfl]; simp)
                            go_wp2_with (
                               at_builtin
                               refine GR.app_all (K := sibK) rfl (.tmp 117) (.tmp 119) _ rfl Try.underlying23 hj0 jz0 jz1 jz2 rfl W10.heap.size _ acc rfl (ho12.out.alloc _) _ 1 1 [l[k]] rfl rfl (GR.rd_new (K := sibK) (l[k]) (by simp [World.setCell]) (by show 40 ≤ 140737488355328; omega)) (by simp only [List.length_append, List.length_singleton]; show (_ + 1) * 40 ≤ _; omega) (by simp [World.setCell]; omega) ?_
                               intro v13 w13 ho_ hg_ hat_
                               obtain ⟨A13, n13, c13, rfl⟩ := own_slice ho_ (by simp only [List.length_append, List.length_singleton]; show (_ + 1) * 40 ≤ _; omega)
                               have O13 := Lib.hid ho_
                               have G13 : Hid (Chg (fun b => (vo).ownBlock = some b) w12 w13) := Lib.hid ((chg_bl (by repeat (first | exact Below.refl _ _ | refine bl_drewN ?_ _ | refine bl_drew ?_ | refine bl_alloc ?_ _))).then (chg_grown hg_ (fun b hb _ => hb)))
                               clear ho_ hg_ hat_
                               have bo13 := Lib.hid (blk_chg bo12.out G13.out (fun h => GR.own_blk_ne ho12.out bo12.out (by decide) h))
                               have hc13 := Lib.hid (Chg.trans hc12.out G13.out (fun i hi h => absurd ((ho12.out).lt i h).1 (Nat.not_le.2 hi)))
                               have r130 : w13.cell? ⟨w9.heap.size, 1, none⟩ = some vo := bo13.out.cell 1
                               have r13f := bo13.out.frozen 1
                               have hs13 : W10.heap.size ≤ w13.heap.size := hc13.out.size
                               have hl13 : w9.heap.size < w13.heap.size := bo13.out.lt)
                            go_roundw
                            case rel => exact ⟨k + 1, true, _, acc ++ [l[k]], rfl, by go_num, by omega, HK, by show _ ≤ k + 1 + 1; simp; omega, Lib.hid (bo13.out.set_ 1 _), Lib.hid (own_farI O13.out bo13.out 1 _ (by decide)), Lib.hid (hc13.out.then (chg_set 1 _ (.inl rfl)))⟩
                            case measure => simp [intOf]; omega
                      · obtain rfl : k = l.length := by omega
                        have hacc2 : acc ++ (if p then [] else [putX s ctx a v g]) = insS (putX s ctx a v g) (keepS ctx l) := by
                          have := hacc.out
                          rw [HPR.out, List.drop_length] at this
                          rw [← this]; rfl
                        have HA2 := Lib.hid hacc2
                        clear hacc2
                        have bx := Lib.hid (blk_chg XX.out hc.out (by omega))
                        have FX := Lib.hid (F21.out.below hb9.out)
                        have ps_0 : wr.cell? ⟨w.heap.size, 0, none⟩ = some (.slice A s.length c1) := (FX.out.blk 9 rfl).cell 0
                        have ps_1 : wr.cell? ⟨w.heap.size, 1, none⟩ = some (.slice B l.length c2) := (FX.out.blk 9 rfl).cell 1
                        clear FX
                        go_upto_if 123 with fail
                        go_cut [] from 122 (fun wx => ∃ (A : Option Addr) (n c : Nat), Hid (GR.Blk wx w9.heap.size 25 #[.slice Am (vmax (vmax s ctx) [putDot s ctx a]).length cm, .slice A n c]) ∧ Hid (GR.Own sibK wx W10.heap.size (.slice A n c) (insS (putX s ctx a v g) (keepS ctx l))) ∧ Hid (Chg (fun b => b = w9.heap.size) W10 wx))
                        case first =>
                          cases p
                          · replace hal : acc.length ≤ l.length := hal
                            have m1 : wr.cell? ⟨w9.heap.size, 1, none⟩ = some vo := bo.out.cell 1
                            have mf := bo.out.frozen 1
                            have w0 : wr.cell? ⟨w9.heap.size + 1, 0, none⟩ = some (.int .u32 a) := bx.out.cell 0
                            have w1 : wr.cell? ⟨w9.heap.size + 1, 1, none⟩ = some (.int .u64 (putN s ctx a + 1)) := bx.out.cell 1
                            have w2 : wr.cell? ⟨w9.heap.size + 1, 2, none⟩ = some (.bool g) := bx.out.cell 2
                            have w3 : wr.cell? ⟨w9.heap.size + 1, 3, none⟩ = some (.string v) := bx.out.cell 3
                            go_wp2_with (
                              at_builtin
                              refine GR.app_all (K := sibK) rfl (.tmp 125) (.tmp 127) _ rfl Try.underlying23 hj0 jz0 jz1 jz2 rfl W10.heap.size _ acc rfl (ho.out.alloc _) _ 1 1 [putX s ctx a v g] rfl rfl (GR.rd_new (K := sibK) (putX s ctx a v g) rfl (by show 40 ≤ 140737488355328; omega)) (by show (acc.length + 1) * 40 ≤ _; omega) (Nat.le_trans hbs (by simp)) ?_
                              intro v13 w13 ho_ hg_ hat_
                              obtain ⟨A13, n13, c13, rfl⟩ := own_slice ho_ (by rw [List.length_append]; show (acc.length + 1) * 40 ≤ _; omega)
                              have O13 := Lib.hid ho_
                              have G13 : Hid (Chg (fun b => vo.ownBlock = some b) wr w13) := Lib.hid ((chg_bl (by repeat (first | exact Below.refl _ _ | refine bl_drewN ?_ _ | refine bl_drew ?_ | refine bl_alloc ?_ _))).then (chg_grown hg_ (fun b hb _ => hb)))
                              clear ho_ hg_ hat_
                              have bo13 := Lib.hid (blk_chg bo.out G13.out (fun h => GR.own_blk_ne ho.out bo.out (by decide) h))
                              have hc13 := Lib.hid (Chg.trans hc.out G13.out (fun i hi h => absurd (ho.out.lt i h).1 (Nat.not_le.2 hi)))
                              have r0 : w13.cell? ⟨w9.heap.size, 1, none⟩ = some vo := bo13.out.cell 1
                              have rf := bo13.out.frozen 1)
                            go_meet
                            exact ⟨_, _, _, Lib.hid (bo13.out.set_ 1 _), Lib.hid (by rw [← HA2.out]; exact own_farI O13.out bo13.out 1 _ (by decide)), Lib.hid (hc13.out.then (chg_set 1 _ (.inl rfl)))⟩
                          · replace hal : acc.length ≤ l.length + 1 := hal
                            obtain ⟨A13, n13, c13, rfl⟩ := own_slice ho.out (by show acc.length * 40 ≤ _; omega)
                            go_wp2_with fail
                            go_meet
                            exact ⟨_, _, _, bo, Lib.hid (by rw [← HA2.out]; simpa using ho.out), hc⟩
                        case rest =>
                          obtain ⟨Az, nz, cz, bz, oz, hcz⟩ := hcut
                          obtain rfl : nz = (insS (putX s ctx a v g) (keepS ctx l)).length := own_n' oz.out
                          have hcb : Hid (Below w9.heap.size w9 wc) := Lib.hid (L10.out.trans (hcz.out.below (Nat.le_of_lt (by omega)) (fun b hb => Nat.le_of_eq hb.symm)))
                          have F25 := Lib.hid (F21.out.below hcb.out)
                          clear F21
                          replace BB := Lib.hid (bl_then BB.out hcb.out)
                          by_cases h7 : 64 < (insS (putX s ctx a v g) (keepS ctx l)).length
                          · have g1 : decide ((64 : Int) < ((insS (putX s ctx a v g) (keepS ctx l)).length : Int)) = true := by simp; omega
                            have g3 : decide (64 < (insS (putX s ctx a v g) (keepS ctx l)).length) = true := by simp; omega
                            have m1 : wc.cell? ⟨w9.heap.size, 1, none⟩ = some (.slice Az (insS (putX s ctx a v g) (keepS ctx l)).length cz) := bz.out.cell 1
                            have H7 := Lib.hid h7
                            clear h7
                            have ps_0 : wc.cell? ⟨w.heap.size, 0, none⟩ = some (.slice A s.length c1) := (F25.out.blk 9 rfl).cell 0
                            have ps_1 : wc.cell? ⟨w.heap.size, 1, none⟩ = some (.slice B l.length c2) := (F25.out.blk 9 rfl).cell 1
                            have pz_0 : wc.cell? ⟨w5c.heap.size, 0, none⟩ = some (.int .u32 a) := (F25.out.blk 3 rfl).cell 0
                            have pz_1 : wc.cell? ⟨w5c.heap.size, 1, none⟩ = some (.int .u64 (putN s ctx a + 1)) := (F25.out.blk 3 rfl).cell 1
                            have HV := Lib.hid (put_big3 H1.out H2.out H3.out (Int.not_le.2 H4.out) H5.out H6.out H7.out)
                            have pr_0 : wc.cell? ⟨w.heap.size + 1, 0, none⟩ = some (.slice none 0 0) := (F25.out.blk 8 rfl).cell 0
                            have pr_1 : wc.cell? ⟨w.heap.size + 1, 1, none⟩ = some (.slice none 0 0) := (F25.out.blk 8 rfl).cell 1
                            have pd_0 : wc.cell? ⟨w.heap.size + 1 + 1, 0, none⟩ = some (.int .u32 0) := (F25.out.blk 7 rfl).cell 0
                            have pd_1 : wc.cell? ⟨w.heap.size + 1 + 1, 1, none⟩ = some (.int .u64 0) := (F25.out.blk 7 rfl).cell 1
                            have pr_f0 := (F25.out.blk 8 rfl).frozen 0
                            have pr_f1 := (F25.out.blk 8 rfl).frozen 1
                            have pd_f0 := (F25.out.blk 7 rfl).frozen 0
                            have pd_f1 := (F25.out.blk 7 rfl).frozen 1
                            go_wp2
                            try rw [Exit.noGoto_ret]
                            exact bodyPost_ret (v := .tuple #[.agg #[.slice none 0 0, .slice none 0 0], .agg #[.int .u32 0, .int .u64 0], .int .i64 82]) (by simp [results, Try.results36, go_sem, pr_0, pr_1, pd_0, pd_1, pr_f0, pr_f1, pd_f0, pd_f1]) rfl ⟨_, _, put_ret0 HV.out, put_own0 HV.out _ _, (by repeat (first | exact bl_then LW.out BB.out | refine bl_drewN ?_ _ | refine bl_drew ?_ | refine bl_alloc ?_ _ | refine Below.setCell ?_ (by simp <;> omega) _))⟩
                          · skip
                            have g1 : decide ((64 : Int) < ((insS (putX s ctx a v g) (keepS ctx l)).length : Int)) = false := by simp; omega
                            have g3 : decide (64 < (insS (putX s ctx a v g) (keepS ctx l)).length) = false := by simp; omega
                            have H7 : Hid (¬ 64 < (insS (putX s ctx a v g) (keepS ctx l)).length) := Lib.hid (by omega)
                            clear h7
                            have HV := Lib.hid (put_ok H1.out H2.out H3.out (Int.not_le.2 H4.out) H5.out H6.out H7.out)
                            have pr_0 : wc.cell? ⟨w.heap.size + 1, 0, none⟩ = some (.slice none 0 0) := (F25.out.blk 8 rfl).cell 0
                            have pr_1 : wc.cell? ⟨w.heap.size + 1, 1, none⟩ = some (.slice none 0 0) := (F25.out.blk 8 rfl).cell 1
                            have pd_0 : wc.cell? ⟨w.heap.size + 1 + 1, 0, none⟩ = some (.int .u32 0) := (F25.out.blk 7 rfl).cell 0
                            have pd_1 : wc.cell? ⟨w.heap.size + 1 + 1, 1, none⟩ = some (.int .u64 0) := (F25.out.blk 7 rfl).cell 1
                            have pr_f0 := (F25.out.blk 8 rfl).frozen 0
                            have pr_f1 := (F25.out.blk 8 rfl).frozen 1
                            have pd_f0 := (F25.out.blk 7 rfl).frozen 0
                            have pd_f1 := (F25.out.blk 7 rfl).frozen 1
                            have pz_lt : w5c.heap.size < wc.heap.size := (F25.out.blk 3 rfl).lt
                            have hz1 : w5c.heap.size ≠ w.heap.size + 1 := by have := HWC.out; omega
                            have hz2 : w5c.heap.size ≠ w.heap.size + 1 + 1 := by have := HWC.out; omega
                            have hz3 : w.heap.size + 1 ≠ w5c.heap.size := Ne.symm hz1
                            have hz4 : w.heap.size + 1 + 1 ≠ w5c.heap.size := Ne.symm hz2
                            have hz9 : w5c.heap.size < w9.heap.size := by have := PZ9.out; omega
                            have hy1 : w9.heap.size ≠ w.heap.size + 1 := by have := HWC.out; omega
                            have hy2 : w9.heap.size ≠ w.heap.size + 1 + 1 := by have := HWC.out; omega
                            have hy3 : w.heap.size + 1 ≠ w9.heap.size := Ne.symm hy1
                            have hy4 : w.heap.size + 1 + 1 ≠ w9.heap.size := Ne.symm hy2
                            have J0 : Hid (wc.cell? ⟨w5c.heap.size, 0, none⟩ = some (.int .u32 a)) := Lib.hid ((F25.out.blk 3 rfl).cell 0)
                            have J1 : Hid (wc.cell? ⟨w5c.heap.size, 1, none⟩ = some (.int .u64 (putN s ctx a + 1))) := Lib.hid ((F25.out.blk 3 rfl).cell 1)
                            have J2 : Hid (wc.cell? ⟨w9.heap.size, 0, none⟩ = some (.slice Am (vmax (vmax s ctx) [putDot s ctx a]).length cm)) := Lib.hid (bz.out.cell 0)
                            have J3 : Hid (wc.cell? ⟨w9.heap.size, 1, none⟩ = some (.slice Az (insS (putX s ctx a v g) (keepS ctx l)).length cz)) := Lib.hid (bz.out.cell 1)
                            have m1 : wc.cell? ⟨w9.heap.size, 1, none⟩ = some (.slice Az (insS (putX s ctx a v g) (keepS ctx l)).length cz) := bz.out.cell 1
                            go_wp2
                            clear m1
                            refine wp_region_held_drew (S := fun w' => w'.cell? ⟨w5c.heap.size, 0, none⟩ = some (.int .u32 a) ∧ w'.cell? ⟨w5c.heap.size, 1, none⟩ = some (.int .u64 (putN s ctx a + 1)) ∧ w'.cell? ⟨w9.heap.size, 0, none⟩ = some (.slice Am (vmax (vmax s ctx) [putDot s ctx a]).length cm) ∧ w'.cell? ⟨w9.heap.size, 1, none⟩ = some (.slice Az (insS (putX s ctx a v g) (keepS ctx l)).length cz)) (by kernel_rfl) ?_ (fun hHeld => ?_)
                            · exact ⟨J0.out, J1.out, J2.out, J3.out⟩
                            refine wpAnyH_take (i := 0) (oi := { dst := some 136, op := Op.load 25 (Operand.tmp 17), type := 25, pos := "ref.go:192", after := #[], guard := none }) (v := ?_) rfl (by kernel_rfl) (by kernel_rfl) (by kernel_rfl) (fun _ _ _ h => h) (Or.inl ⟨by rfl, ?_⟩) (by assumption) ?_
                            rotate_left
                            · intro w_ hSw
                              (try dsimp only at hSw)
                              go_simp
                              first | done | with_reducible rfl
                            try simp only [Act.put, List.setIfInBounds_toArray, List.set_cons_zero, List.set_cons_succ]
                            refine wpAnyH_take (i := 1) (oi := { dst := some 137, op := Op.load 41 (Operand.tmp 14), type := 41, pos := "ref.go:192", after := #[{ on := 2, ground := Ground.gcOnly Departure.lateStores }], guard := none }) (v := ?_) rfl (by kernel_rfl) (by kernel_rfl) (by kernel_rfl) (fun _ _ _ h => h) (Or.inl ⟨by rfl, ?_⟩) (by assumption) ?_
                            rotate_left
                            · intro w_ hSw
                              (try dsimp only at hSw)
                              go_simp
                              first | done | with_reducible rfl
                            try simp only [Act.put, List.setIfInBounds_toArray, List.set_cons_zero, List.set_cons_succ]
                            refine wpAnyH_ready (rs := [2]) (by kernel_rfl) (by simp) ?_
                            refine AllReadyH.cons (o := { dst := none, op := Op.store 25 (Operand.tmp 10) (Operand.tmp 136), type := 0, pos := "ref.go:192", after := #[{ on := 0, ground := Ground.data }, { on := 0, ground := Ground.phase }, { on := 1, ground := Ground.textOnly Departure.lateStores }], guard := none }) rfl (fun K hK => ?_) (AllReadyH.nil)
                            go_simp
                            skip
                            refine hK.out _ _ ?_ (fun hHeld => ?_)
                            · (have k0 := J0.out; have k1 := J1.out; have k2 := J2.out; have k3 := J3.out; go_keep)
                            clear hK K
                            try simp only [Act.put, List.setIfInBounds_toArray, List.set_cons_zero, List.set_cons_succ]
                            refine wpAnyH_ready (rs := [3]) (by kernel_rfl) (by simp) ?_
                            refine AllReadyH.cons (o := { dst := none, op := Op.store 41 (Operand.tmp 11) (Operand.tmp 137), type := 0, pos := "ref.go:192", after := #[{ on := 1, ground := Ground.data }, { on := 2, ground := Ground.chain }, { on := 0, ground := Ground.phase }, { on := 1, ground := Ground.phase }, { on := 2, ground := Ground.phase }], guard := none }) rfl (fun K hK => ?_) (AllReadyH.nil)
                            go_simp
                            skip
                            refine hK.out _ _ ?_ (fun hHeld => ?_)
                            · (have k0 := J0.out; have k1 := J1.out; have k2 := J2.out; have k3 := J3.out; go_keep)
                            clear hK K
                            try simp only [Act.put, List.setIfInBounds_toArray, List.set_cons_zero, List.set_cons_succ]
                            refine wpAnyH_take (i := 4) (oi := { dst := some 12, op := Op.assign (Operand.const (Value.int IntKind.i64 0)), type := 33, pos := "ref.go:192", after := #[{ on := 3, ground := Ground.chain }, { on := 0, ground := Ground.phase }, { on := 1, ground := Ground.phase }, { on := 2, ground := Ground.phase }, { on := 3, ground := Ground.phase }], guard := none }) (v := ?_) rfl (by kernel_rfl) (by kernel_rfl) (by kernel_rfl) (fun _ _ _ h => h) (Or.inl ⟨by rfl, ?_⟩) (by assumption) ?_
                            rotate_left
                            · intro w_ hSw
                              (try dsimp only at hSw)
                              go_simp
                              first | done | with_reducible rfl
                            try simp only [Act.put, List.setIfInBounds_toArray, List.set_cons_zero, List.set_cons_succ]
                            refine wpAnyH_done (by kernel_rfl) ?_ _
                            go_wp2
                            have CF : ∀ x : World, Chg (fun k => k = w.heap.size + 1 ∨ k = w.heap.size + 1 + 1) wc x → OwnS x w.heap.size (.slice Am (vmax (vmax s ctx) [putDot s ctx a]).length cm) (.slice Az (insS (putX s ctx a v g) (keepS ctx l)).length cz) (putA s l ctx a v g) (putL s l ctx a v g) := fun x hx => by
                              rw [HV.out.2.1, HV.out.2.2.1]
                              refine ⟨GR.Own.base (own_chg (F25.out.ow 0 rfl) hx fun k hk hs => ?_) LW.out.size, GR.Own.base (B := W1.heap.size) (own_chg (oz.out.base (by have h4 := HWS.out; omega)) hx fun k hk hs => ?_) LW.out.size⟩
                              · have h1 := ((F25.out.ow 0 rfl).lt k hk).1; have h2 := LW1.out; omega
                              · have h1 := (oz.out.lt k hk).1; have h2 := HWC.out; omega
                            exact bodyPost_ret (v := .tuple #[.agg #[.slice Am (vmax (vmax s ctx) [putDot s ctx a]).length cm, .slice Az (insS (putX s ctx a v g) (keepS ctx l)).length cz], .agg #[.int .u32 a, .int .u64 (putN s ctx a + 1)], .int .i64 0]) (by simp [results, Try.results36, go_sem, pr_0, pr_1, pd_0, pd_1, pr_f0, pr_f1, pd_f0, pd_f1]) rfl ⟨_, _, put_ret1 HV.out.1 HV.out.2.2.2, CF _ (by repeat (first | exact Chg.refl _ _ | refine chg_drewN ?_ _ | refine chg_drew ?_ | refine chg_put ?_ (by first | exact .inl rfl | exact .inr rfl))), (by repeat (first | exact bl_then LW.out BB.out | refine bl_drewN ?_ _ | refine bl_drew ?_ | refine bl_alloc ?_ _ | refine Below.setCell ?_ (by simp <;> omega) _))⟩
                  · rw [hxe]
                    have H6 := Lib.hid hx
                    clear ho hx hxe
                    have ps_0 : w9.cell? ⟨w.heap.size, 0, none⟩ = some (.slice A s.length c1) := (F20.out.blk 8 rfl).cell 0
                    have ps_1 : w9.cell? ⟨w.heap.size, 1, none⟩ = some (.slice B l.length c2) := (F20.out.blk 8 rfl).cell 1
                    have pz_0 : w9.cell? ⟨w5c.heap.size, 0, none⟩ = some (.int .u32 a) := (F20.out.blk 2 rfl).cell 0
                    have pz_1 : w9.cell? ⟨w5c.heap.size, 1, none⟩ = some (.int .u64 (putN s ctx a + 1)) := (F20.out.blk 2 rfl).cell 1
                    have HV := Lib.hid (put_big2 H1.out H2.out H3.out (Int.not_le.2 H4.out) H5.out H6.out)
                    have pr_0 : w9.cell? ⟨w.heap.size + 1, 0, none⟩ = some (.slice none 0 0) := (F20.out.blk 7 rfl).cell 0
                    have pr_1 : w9.cell? ⟨w.heap.size + 1, 1, none⟩ = some (.slice none 0 0) := (F20.out.blk 7 rfl).cell 1
                    have pd_0 : w9.cell? ⟨w.heap.size + 1 + 1, 0, none⟩ = some (.int .u32 0) := (F20.out.blk 6 rfl).cell 0
                    have pd_1 : w9.cell? ⟨w.heap.size + 1 + 1, 1, none⟩ = some (.int .u64 0) := (F20.out.blk 6 rfl).cell 1
                    have pr_f0 := (F20.out.blk 7 rfl).frozen 0
                    have pr_f1 := (F20.out.blk 7 rfl).frozen 1
                    have pd_f0 := (F20.out.blk 6 rfl).frozen 0
                    have pd_f1 := (F20.out.blk 6 rfl).frozen 1
                    go_wp2
                    try rw [Exit.noGoto_ret]
                    exact bodyPost_ret (v := .tuple #[.agg #[.slice none 0 0, .slice none 0 0], .agg #[.int .u32 0, .int .u64 0], .int .i64 82]) (by simp [results, Try.results36, go_sem, pr_0, pr_1, pd_0, pd_1, pr_f0, pr_f1, pd_f0, pd_f1]) rfl ⟨_, _, put_ret0 HV.out, put_own0 HV.out _ _, (by repeat (first | exact bl_then LW.out BB.out | refine bl_drewN ?_ _ | refine bl_drew ?_ | refine bl_alloc ?_ _ | refine Below.setCell ?_ (by simp <;> omega) _))⟩
                · rw [hxe]
                  have H5 := Lib.hid hx
                  clear ho hx hxe
                  have ps_0 : w7.cell? ⟨w.heap.size, 0, none⟩ = some (.slice A s.length c1) := (F16.out.blk 6 rfl).cell 0
                  have ps_1 : w7.cell? ⟨w.heap.size, 1, none⟩ = some (.slice B l.length c2) := (F16.out.blk 6 rfl).cell 1
                  have pz_0 : w7.cell? ⟨w5c.heap.size, 0, none⟩ = some (.int .u32 a) := (F16.out.blk 0 rfl).cell 0
                  have pz_1 : w7.cell? ⟨w5c.heap.size, 1, none⟩ = some (.int .u64 (putN s ctx a + 1)) := (F16.out.blk 0 rfl).cell 1
                  have HV := Lib.hid (put_big1 H1.out H2.out H3.out (Int.not_le.2 H4.out) H5.out)
                  have pr_0 : w7.cell? ⟨w.heap.size + 1, 0, none⟩ = some (.slice none 0 0) := (F16.out.blk 5 rfl).cell 0
                  have pr_1 : w7.cell? ⟨w.heap.size + 1, 1, none⟩ = some (.slice none 0 0) := (F16.out.blk 5 rfl).cell 1
                  have pd_0 : w7.cell? ⟨w.heap.size + 1 + 1, 0, none⟩ = some (.int .u32 0) := (F16.out.blk 4 rfl).cell 0
                  have pd_1 : w7.cell? ⟨w.heap.size + 1 + 1, 1, none⟩ = some (.int .u64 0) := (F16.out.blk 4 rfl).cell 1
                  have pr_f0 := (F16.out.blk 5 rfl).frozen 0
                  have pr_f1 := (F16.out.blk 5 rfl).frozen 1
                  have pd_f0 := (F16.out.blk 4 rfl).frozen 0
                  have pd_f1 := (F16.out.blk 4 rfl).frozen 1
                  go_wp2
                  try rw [Exit.noGoto_ret]
                  exact bodyPost_ret (v := .tuple #[.agg #[.slice none 0 0, .slice none 0 0], .agg #[.int .u32 0, .int .u64 0], .int .i64 82]) (by simp [results, Try.results36, go_sem, pr_0, pr_1, pd_0, pd_1, pr_f0, pr_f1, pd_f0, pd_f1]) rfl ⟨_, _, put_ret0 HV.out, put_own0 HV.out _ _, (by repeat (first | exact bl_then LW.out BB.out | refine bl_drewN ?_ _ | refine bl_drew ?_ | refine bl_alloc ?_ _ | refine Below.setCell ?_ (by simp <;> omega) _))⟩
end Go.Proofs.Ytljfigikkajlnaa
