/- DERIVED. The program's Put of an object. -/
import Derived.Test.YtljfigikkajlnaaVDvPut
import Derived.Test.YtljfigikkajlnaaVm8
namespace Go.Proofs.Ytljfigikkajlnaa
open Go.RowKit Go.Lib
set_option linter.unusedVariables false
set_option linter.unusedSimpArgs false
def oputE (key : ByteArray) (s : List Dot) (l : List Sib) (ctx : List Dot) (a : Int) (v : ByteArray) (g : Bool) : Int :=
  if chkE key s l = 0 then (if putE s l ctx a v g = 0 then chkE key (putA s l ctx a v g) (putL s l ctx a v g) else putE s l ctx a v g) else chkE key s l
def oputK (key : ByteArray) (s : List Dot) (l : List Sib) (ctx : List Dot) (a : Int) (v : ByteArray) (g : Bool) : ByteArray := if oputE key s l ctx a v g = 0 then key else ⟨#[]⟩
def oputA (key : ByteArray) (s : List Dot) (l : List Sib) (ctx : List Dot) (a : Int) (v : ByteArray) (g : Bool) : List Dot := if oputE key s l ctx a v g = 0 then putA s l ctx a v g else []
def oputL (key : ByteArray) (s : List Dot) (l : List Sib) (ctx : List Dot) (a : Int) (v : ByteArray) (g : Bool) : List Sib := if oputE key s l ctx a v g = 0 then putL s l ctx a v g else []
def oputD (key : ByteArray) (s : List Dot) (l : List Sib) (ctx : List Dot) (a : Int) (v : ByteArray) (g : Bool) : Dot := if oputE key s l ctx a v g = 0 then putD s l ctx a v g else ⟨0, 0⟩
section
variable {key : ByteArray} {s ctx : List Dot} {l : List Sib} {a : Int} {v : ByteArray} {g : Bool}
theorem oput_no {x : Int} (h : oputE key s l ctx a v g = x) (h0 : x ≠ 0) : oputE key s l ctx a v g = x ∧ oputK key s l ctx a v g = ⟨#[]⟩ ∧ oputD key s l ctx a v g = ⟨0, 0⟩ ∧ oputA key s l ctx a v g = [] ∧ oputL key s l ctx a v g = [] := by
  refine ⟨h, ?_, ?_, ?_, ?_⟩
  · rw [oputK, h, if_neg h0]
  · rw [oputD, h, if_neg h0]
  · rw [oputA, h, if_neg h0]
  · rw [oputL, h, if_neg h0]
theorem oput_yes (h : oputE key s l ctx a v g = 0) : oputE key s l ctx a v g = 0 ∧ oputK key s l ctx a v g = key ∧ oputD key s l ctx a v g = putD s l ctx a v g ∧ oputA key s l ctx a v g = putA s l ctx a v g ∧ oputL key s l ctx a v g = putL s l ctx a v g := by
  refine ⟨h, ?_, ?_, ?_, ?_⟩
  · rw [oputK, if_pos h]
  · rw [oputD, if_pos h]
  · rw [oputA, if_pos h]
  · rw [oputL, if_pos h]
theorem put_str (hs : StR s l) (hc : ∀ d ∈ ctx, 0 ≤ d.n ∧ 0 ≤ d.a ∧ d.a ≤ 4294967295) (ha : 0 ≤ a ∧ a ≤ 4294967295) : StR (putA s l ctx a v g) (putL s l ctx a v g) := by
  obtain ⟨p1, p2⟩ := put_pos (a := a) (v := v) (g := g) (fun d hd => (hs.1 d hd).1) (fun x hx => (hs.2 x hx).1) (fun d hd => (hc d hd).1)
  refine ⟨fun d hd => ⟨p1 d hd, ?_⟩, fun x hx => ⟨p2 x hx, ?_⟩⟩
  · unfold putA at hd
    split at hd
    · rcases vmax_actor _ _ d hd with ⟨y, hy, e⟩ | ⟨y, hy, e⟩
      · rcases vmax_actor _ _ y hy with ⟨z, hz, e2⟩ | ⟨z, hz, e2⟩
        · have := hs.1 z hz; omega
        · have := hc z hz; omega
      · rw [List.mem_singleton] at hy
        subst hy
        have : (putDot s ctx a).a = a := rfl
        omega
    · cases hd
  · unfold putL at hx
    split at hx
    · rcases ins_mem.1 hx with rfl | hx
      · have : (putX s ctx a v g).d.a = a := rfl
        omega
      · exact (hs.2 x (keep_mem.1 hx).1).2
    · cases hx
end
set_option maxRecDepth 100000 in
set_option maxHeartbeats 12800000 in
theorem oput_any (key : ByteArray) (A C E : Option Addr) (c d c3 : Nat) (s : List Dot) (l : List Sib) (ctx : List Dot) (a : Int) (v : ByteArray) (g : Bool) (w : World) (hs : GR.Rd dotK w A s) (hl : GR.Rd sibK w C l) (hx : GR.Rd dotK w E ctx) (hcs : s.length ≤ c) (hcc : ctx.length ≤ c3)
    (hr : StR s l) (hq : ∀ d ∈ ctx, 0 ≤ d.n ∧ 0 ≤ d.a ∧ d.a ≤ 4294967295) (ha : 0 ≤ a ∧ a ≤ 4294967295) :
    Calls Try.prog 17 #[.agg #[.string key, .slice A s.length c, .slice C l.length d], .slice E ctx.length c3, .int .u32 a, .string v, .bool g] w
      fun e w' => ∃ v1 v2, e = .returned (.tuple #[.agg #[.string (oputK key s l ctx a v g), v1, v2], .agg #[.int .u32 (oputD key s l ctx a v g).a, .int .u64 (oputD key s l ctx a v g).n], .int .i64 (oputE key s l ctx a v g)]) ∧ OwnS w' w.heap.size v1 v2 (oputA key s l ctx a v g) (oputL key s l ctx a v g) ∧ Below w.heap.size w w' := by
  have HSM := Lib.hid (put_small s l ctx a v g)
  have HPS := Lib.hid (put_str (v := v) (g := g) hr hq ha)
  have nq : ∀ d ∈ ctx, 0 ≤ d.n := fun d hd => (hq d hd).1
  have HS := Lib.hid hs
  have HL := Lib.hid hl
  have HX := Lib.hid hx
  have HR := Lib.hid hr
  have HQ := Lib.hid hq
  have HAA := Lib.hid ha
  have NQ := Lib.hid nq
  clear hs hl hx hr hq ha nq
  go_enter Try.func17, Try.ntmps17
  go_wp2_with fail
  obtain ⟨W1, hW1⟩ : ∃ W1 : World, W1 = ((w.alloc (.cells #[.string key, .slice A s.length c, .slice C l.length d] 27)).alloc (.cells #[.string ⟨#[]⟩, .slice none 0 0, .slice none 0 0] 27)).alloc (.cells #[.int .u32 0, .int .u64 0] 41) := ⟨_, rfl⟩
  rw [← hW1]
  have LW : Hid (Below w.heap.size w W1) := Lib.hid (by rw [hW1]; exact (by repeat (first | exact Below.refl _ _ | refine bl_drewN ?_ _ | refine bl_drew ?_ | refine bl_alloc ?_ _)))
  have XO : Hid (GR.Blk W1 w.heap.size 27 #[.string key, .slice A s.length c, .slice C l.length d]) := Lib.hid (by rw [hW1]; exact ((GR.Blk.new _ _ _).alloc _).alloc _)
  have XR : Hid (GR.Blk W1 (w.heap.size + 1) 27 #[.string ⟨#[]⟩, .slice none 0 0, .slice none 0 0]) := Lib.hid (by rw [hW1]; exact (new_at _ _ _ (by simp)).alloc _)
  have XD : Hid (GR.Blk W1 (w.heap.size + 1 + 1) 41 #[.int .u32 0, .int .u64 0]) := Lib.hid (by rw [hW1]; exact new_at _ _ _ (by simp))
  clear hW1
  have n1 : w.heap.size + 1 ≠ w.heap.size + 1 + 1 := by omega
  have n2 : w.heap.size + 1 + 1 ≠ w.heap.size + 1 := by omega
  refine (check_any key A C s.length c l.length d s l _ (HS.out.below LW.out) (HL.out.below LW.out) rfl rfl HR.out).mono ?_
  rintro e w2 ⟨rfl, hb⟩
  have B2 := Lib.hid (bl_then LW.out hb)
  have O2 := Lib.hid (XO.out.below hb XO.out.lt)
  have R2 := Lib.hid (XR.out.below hb XR.out.lt)
  have D2 := Lib.hid (XD.out.below hb XD.out.lt)
  clear hb
  by_cases h1 : chkE key s l = 0
  · have HC1 := Lib.hid h1
    rw [h1]
    clear h1
    have o0 : w2.cell? ⟨w.heap.size, 1, none⟩ = some (.slice A s.length c) := O2.out.cell 1
    have o1 : w2.cell? ⟨w.heap.size, 2, none⟩ = some (.slice C l.length d) := O2.out.cell 2
    go_wp2_with fail
    clear o0 o1
    refine (dvvPut_any A C E c d c3 s l ctx a v g _ (HS.out.below B2.out) (HL.out.below B2.out) (HX.out.below B2.out) hcs hcc (fun d hd => (HR.out.1 d hd).1) (fun x hx => (HR.out.2 x hx).1) NQ.out).mono ?_
    rintro e w3 ⟨v1, v2, rfl, ⟨hod, hos⟩, hb⟩
    obtain ⟨S', hS'⟩ : ∃ S', putA s l ctx a v g = S' := ⟨_, rfl⟩
    obtain ⟨L', hL'⟩ : ∃ L', putL s l ctx a v g = L' := ⟨_, rfl⟩
    obtain ⟨D', hD'⟩ : ∃ D', putD s l ctx a v g = D' := ⟨_, rfl⟩
    obtain ⟨x, hx⟩ : ∃ x, putE s l ctx a v g = x := ⟨_, rfl⟩
    have hsm := HSM.out
    have hps := HPS.out
    rw [hS', hL'] at hsm hps
    rw [hS'] at hod
    rw [hL'] at hos
    rw [hD', hx]
    have HSS := Lib.hid hS'
    have HLL := Lib.hid hL'
    have HDD := Lib.hid hD'
    have HXX := Lib.hid hx
    have HSM2 := Lib.hid hsm
    have HPS2 := Lib.hid hps
    have js : S'.length * 16 ≤ 140737488355328 := by omega
    have jl : L'.length * 40 ≤ 140737488355328 := by omega
    obtain ⟨A1, m1, k1, rfl⟩ := own_slice hod js
    obtain ⟨A2, m2, k2, rfl⟩ := own_slice hos jl
    obtain rfl : m1 = S'.length := own_n' hod
    obtain rfl : m2 = L'.length := own_n' hos
    have PB3 : Hid (OwnS w3 w2.heap.size (.slice A1 S'.length k1) (.slice A2 L'.length k2) S' L') := Lib.hid ⟨hod, hos⟩
    have hR2 : w.heap.size + 1 < w2.heap.size := R2.out.lt
    have hD2 : w.heap.size + 1 + 1 < w2.heap.size := D2.out.lt
    have P3 : Hid (OwnS w3 w.heap.size (.slice A1 S'.length k1) (.slice A2 L'.length k2) S' L') := Lib.hid (OwnS.base ⟨hod, hos⟩ B2.out.size)
    have B3 := Lib.hid (bl_then B2.out hb)
    have O3 := Lib.hid (O2.out.below hb O2.out.lt)
    have R3 := Lib.hid (R2.out.below hb R2.out.lt)
    have D3 := Lib.hid (D2.out.below hb D2.out.lt)
    clear hS' hL' hD' hx hsm hps hod hos hb
    have ho3 : w.heap.size < w3.heap.size := O3.out.lt
    have hr3 : w.heap.size + 1 < w3.heap.size := R3.out.lt
    have hd3 : w.heap.size + 1 + 1 < w3.heap.size := D3.out.lt
    have o0 : w3.cell? ⟨w.heap.size, 0, none⟩ = some (.string key) := O3.out.cell 0
    by_cases h2 : x = 0
    · have HE0 : Hid (oputE key s l ctx a v g = chkE key S' L') := Lib.hid (by rw [oputE, if_pos HC1.out, HXX.out, if_pos h2, HSS.out, HLL.out])
      subst h2
      go_wp2_with fail
      obtain ⟨W4, hW4⟩ : ∃ W4 : World, W4 = ((w3.alloc (.cells #[.slice A1 S'.length k1, .slice A2 L'.length k2] 25)).alloc (.cells #[.int .u32 D'.a, .int .u64 D'.n] 41)).alloc (.cells #[.string key, .slice A1 S'.length k1, .slice A2 L'.length k2] 27) := ⟨_, rfl⟩
      rw [← hW4]
      have L4 : Hid (Below w3.heap.size w3 W4) := Lib.hid (by rw [hW4]; exact (by repeat (first | exact Below.refl _ _ | refine bl_drewN ?_ _ | refine bl_drew ?_ | refine bl_alloc ?_ _)))
      have Y4 : Hid (GR.Blk W4 (w3.heap.size + 1) 41 #[.int .u32 D'.a, .int .u64 D'.n]) := Lib.hid (by rw [hW4]; exact (new_at _ _ _ (by simp)).alloc _)
      have Z4 : Hid (GR.Blk W4 (w3.heap.size + 1 + 1) 27 #[.string key, .slice A1 S'.length k1, .slice A2 L'.length k2]) := Lib.hid (by rw [hW4]; exact new_at _ _ _ (by simp))
      clear hW4 o0
      have P4 := Lib.hid (P3.out.below L4.out)
      refine (check_any key A1 A2 S'.length k1 L'.length k2 S' L' _ (P4.out.d.rd js).2.2 (P4.out.s.rd jl).2.2 rfl rfl HPS2.out).mono ?_
      rintro e w5 ⟨rfl, hb⟩
      have L5 := Lib.hid (bl_then L4.out hb)
      have B5 := Lib.hid (bl_then B3.out L5.out)
      have R5 := Lib.hid (R3.out.below L5.out hr3)
      have D5 := Lib.hid (D3.out.below L5.out hd3)
      have Y5 := Lib.hid (Y4.out.below hb Y4.out.lt)
      have Z5 := Lib.hid (Z4.out.below hb Z4.out.lt)
      have PB5 := Lib.hid ((PB3.out.below L4.out).below hb)
      clear hb
      have r0 : w5.cell? ⟨w.heap.size + 1, 0, none⟩ = some (.string ⟨#[]⟩) := R5.out.cell 0
      have r1 : w5.cell? ⟨w.heap.size + 1, 1, none⟩ = some (.slice none 0 0) := R5.out.cell 1
      have r2 : w5.cell? ⟨w.heap.size + 1, 2, none⟩ = some (.slice none 0 0) := R5.out.cell 2
      have f0 := R5.out.frozen 0
      have f1 := R5.out.frozen 1
      have f2 := R5.out.frozen 2
      have d0 : w5.cell? ⟨w.heap.size + 1 + 1, 0, none⟩ = some (.int .u32 0) := D5.out.cell 0
      have d1 : w5.cell? ⟨w.heap.size + 1 + 1, 1, none⟩ = some (.int .u64 0) := D5.out.cell 1
      have e0 := D5.out.frozen 0
      have e1 := D5.out.frozen 1
      by_cases h3 : chkE key S' L' = 0
      · have HV := Lib.hid (oput_yes (show oputE key s l ctx a v g = 0 by rw [HE0.out, h3]))
        rw [h3]
        clear h3
        have HYc := Lib.hid (show w5.cell? ⟨w3.heap.size + 1, 0, none⟩ = some (.int .u32 D'.a) from Y5.out.cell 0)
        have HYd := Lib.hid (show w5.cell? ⟨w3.heap.size + 1, 1, none⟩ = some (.int .u64 D'.n) from Y5.out.cell 1)
        have HZ0 := Lib.hid (show w5.cell? ⟨w3.heap.size + 1 + 1, 0, none⟩ = some (.string key) from Z5.out.cell 0)
        have HZ1 := Lib.hid (show w5.cell? ⟨w3.heap.size + 1 + 1, 1, none⟩ = some (.slice A1 S'.length k1) from Z5.out.cell 1)
        have HZ2 := Lib.hid (show w5.cell? ⟨w3.heap.size + 1 + 1, 2, none⟩ = some (.slice A2 L'.length k2) from Z5.out.cell 2)
        have OF : Hid (∀ W : World, Chg (fun k => k < w2.heap.size) w5 W → OwnS W w.heap.size (.slice A1 S'.length k1) (.slice A2 L'.length k2) S' L') := Lib.hid (fun W hc => OwnS.base ⟨own_chg PB5.out.d hc (fun k hk e => absurd (PB5.out.d.lt k hk).1 (Nat.not_le.2 e)), own_chg PB5.out.s hc (fun k hk e => absurd (PB5.out.s.lt k hk).1 (Nat.not_le.2 e))⟩ B2.out.size)
        have q1 : w.heap.size + 1 ≠ w3.heap.size + 1 := by omega
        have q2 : w.heap.size + 1 ≠ w3.heap.size + 1 + 1 := by omega
        have q3 : w.heap.size + 1 + 1 ≠ w3.heap.size + 1 := by omega
        have q4 : w.heap.size + 1 + 1 ≠ w3.heap.size + 1 + 1 := by omega
        go_wp2
        have y0 := HYc.out
        have y1 := HYd.out
        have z0 := HZ0.out
        have z1 := HZ1.out
        have z2 := HZ2.out
        go_region
        all_goals
          go_wp2
          exact bodyPost_ret (v := .tuple #[.agg #[.string key, .slice A1 S'.length k1, .slice A2 L'.length k2], .agg #[.int .u32 D'.a, .int .u64 D'.n], .int .i64 0]) (by simp [results, Try.results17, go_sem, r0, r1, r2, f0, f1, f2, d0, d1, e0, e1, n1, n2]) rfl ⟨_, _, by rw [HV.out.1, HV.out.2.1, HV.out.2.2.1, HDD.out], by
            rw [HV.out.2.2.2.1, HV.out.2.2.2.2, HSS.out, HLL.out]
            exact OF.out _ (chg_drew (by repeat (first | exact Chg.refl _ _ | refine Chg.then ?_ (chg_set _ _ (.inl (by first | exact hR2 | exact hD2)))))), by
            refine bl_drew ?_
            repeat (first | exact B5.out | refine Below.setCell ?_ (by first | (show w.heap.size ≤ w.heap.size + 1 + 1; omega) | (show w.heap.size ≤ w.heap.size + 1; omega)) _)⟩
      · have HV := Lib.hid (oput_no HE0.out h3)
        obtain ⟨y, hy⟩ : ∃ y, chkE key S' L' = y := ⟨_, rfl⟩
        rw [hy] at h3 HV ⊢
        have q1 : (y != 0) = true := by simpa using h3
        have q2 : decide (y = 0) = false := by simpa using h3
        clear hy h3 HE0
        go_wp2
        exact bodyPost_ret (v := .tuple #[.agg #[.string ⟨#[]⟩, .slice none 0 0, .slice none 0 0], .agg #[.int .u32 0, .int .u64 0], .int .i64 y]) (by simp [results, Try.results17, go_sem, r0, r1, r2, f0, f1, f2, d0, d1, e0, e1]) rfl ⟨_, _, by rw [HV.out.1, HV.out.2.1, HV.out.2.2.1], by rw [HV.out.2.2.2.1, HV.out.2.2.2.2]; exact ⟨GR.Own.nil _ _ _, GR.Own.nil _ _ _⟩, (by repeat (first | exact B5.out | refine Below.setCell ?_ (by first | (show w.heap.size ≤ w.heap.size + 1 + 1; omega) | (show w.heap.size ≤ w.heap.size + 1; omega)) _))⟩
    · have HV := Lib.hid (oput_no (show oputE key s l ctx a v g = x by rw [oputE, if_pos HC1.out, HXX.out, if_neg h2]) h2)
      have q1 : (x != 0) = true := by simpa using h2
      have q2 : decide (x = 0) = false := by simpa using h2
      go_upto_region 5 with fail
      obtain ⟨W4, hW4⟩ : ∃ W4 : World, W4 = (w3.alloc (.cells #[.slice A1 S'.length k1, .slice A2 L'.length k2] 25)).alloc (.cells #[.int .u32 D'.a, .int .u64 D'.n] 41) := ⟨_, rfl⟩
      rw [← hW4]
      have L4 : Hid (Below w3.heap.size w3 W4) := Lib.hid (by rw [hW4]; exact (by repeat (first | exact Below.refl _ _ | refine bl_drewN ?_ _ | refine bl_drew ?_ | refine bl_alloc ?_ _)))
      have R4 := Lib.hid (R3.out.below L4.out hr3)
      have D4 := Lib.hid (D3.out.below L4.out hd3)
      have B4 := Lib.hid (bl_then B3.out L4.out)
      clear hW4 o0
      have r0 : W4.cell? ⟨w.heap.size + 1, 0, none⟩ = some (.string ⟨#[]⟩) := R4.out.cell 0
      have r1 : W4.cell? ⟨w.heap.size + 1, 1, none⟩ = some (.slice none 0 0) := R4.out.cell 1
      have r2 : W4.cell? ⟨w.heap.size + 1, 2, none⟩ = some (.slice none 0 0) := R4.out.cell 2
      have f0 := R4.out.frozen 0
      have f1 := R4.out.frozen 1
      have f2 := R4.out.frozen 2
      have d0 : W4.cell? ⟨w.heap.size + 1 + 1, 0, none⟩ = some (.int .u32 0) := D4.out.cell 0
      have d1 : W4.cell? ⟨w.heap.size + 1 + 1, 1, none⟩ = some (.int .u64 0) := D4.out.cell 1
      have e0 := D4.out.frozen 0
      have e1 := D4.out.frozen 1
      clear h2
      go_wp2
      exact bodyPost_ret (v := .tuple #[.agg #[.string ⟨#[]⟩, .slice none 0 0, .slice none 0 0], .agg #[.int .u32 0, .int .u64 0], .int .i64 x]) (by simp [results, Try.results17, go_sem, r0, r1, r2, f0, f1, f2, d0, d1, e0, e1]) rfl ⟨_, _, by rw [HV.out.1, HV.out.2.1, HV.out.2.2.1], by rw [HV.out.2.2.2.1, HV.out.2.2.2.2]; exact ⟨GR.Own.nil _ _ _, GR.Own.nil _ _ _⟩, (by repeat (first | exact B4.out | refine Below.setCell ?_ (by first | (show w.heap.size ≤ w.heap.size + 1 + 1; omega) | (show w.heap.size ≤ w.heap.size + 1; omega)) _))⟩
  · have HV := Lib.hid (oput_no (show oputE key s l ctx a v g = chkE key s l by rw [oputE, if_neg h1]) h1)
    obtain ⟨y, hy⟩ : ∃ y, chkE key s l = y := ⟨_, rfl⟩
    rw [hy] at h1 HV ⊢
    have q1 : (y != 0) = true := by simpa using h1
    have q2 : decide (y = 0) = false := by simpa using h1
    clear hy h1
    have r0 : w2.cell? ⟨w.heap.size + 1, 0, none⟩ = some (.string ⟨#[]⟩) := R2.out.cell 0
    have r1 : w2.cell? ⟨w.heap.size + 1, 1, none⟩ = some (.slice none 0 0) := R2.out.cell 1
    have r2 : w2.cell? ⟨w.heap.size + 1, 2, none⟩ = some (.slice none 0 0) := R2.out.cell 2
    have f0 := R2.out.frozen 0
    have f1 := R2.out.frozen 1
    have f2 := R2.out.frozen 2
    have d0 : w2.cell? ⟨w.heap.size + 1 + 1, 0, none⟩ = some (.int .u32 0) := D2.out.cell 0
    have d1 : w2.cell? ⟨w.heap.size + 1 + 1, 1, none⟩ = some (.int .u64 0) := D2.out.cell 1
    have e0 := D2.out.frozen 0
    have e1 := D2.out.frozen 1
    go_wp2
    exact bodyPost_ret (v := .tuple #[.agg #[.string ⟨#[]⟩, .slice none 0 0, .slice none 0 0], .agg #[.int .u32 0, .int .u64 0], .int .i64 y]) (by simp [results, Try.results17, go_sem, r0, r1, r2, f0, f1, f2, d0, d1, e0, e1]) rfl ⟨_, _, by rw [HV.out.1, HV.out.2.1, HV.out.2.2.1], by rw [HV.out.2.2.2.1, HV.out.2.2.2.2]; exact ⟨GR.Own.nil _ _ _, GR.Own.nil _ _ _⟩, (by repeat (first | exact B2.out | refine Below.setCell ?_ (by first | (show w.heap.size ≤ w.heap.size + 1 + 1; omega) | (show w.heap.size ≤ w.heap.size + 1; omega)) _))⟩
end Go.Proofs.Ytljfigikkajlnaa
