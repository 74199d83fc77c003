/- DERIVED. The program's Encode of a state. -/
import Derived.Test.YtljfigikkajlnaaVDvJoinP
import Derived.Test.YtljfigikkajlnaaVDvValid
import Derived.Test.YtljfigikkajlnaaVm5
import Derived.WalkMore
namespace Go.Proofs.Ytljfigikkajlnaa
open Go.RowKit Go.Lib
set_option linter.unusedVariables false
set_option linter.unusedSimpArgs false
def goneU (g : Bool) : UInt8 := if g then 1 else 0
def sibU (x : Sib) : List UInt8 := dotU x.d ++ [goneU x.gone] ++ textU x.v
def encS (a : List Dot) (l : List Sib) : List UInt8 := vecU a ++ uintU l.length ++ l.flatMap sibU
def encT (a : List Dot) (l : List Sib) : ByteArray := if staB a l then ⟨(encS a l).toArray⟩ else ⟨#[]⟩
def encE (a : List Dot) (l : List Sib) : Int := if staB a l then 0 else 110
def SibOk (x : Sib) : Prop := x.d.a ≤ 4294967295 ∧ x.d.n ≤ 1099511627776 ∧ x.v.size ≤ 40
theorem sibU_len {x : Sib} (h : SibOk x) : (sibU x).length ≤ 71 := by
  have h1 := dotU_len h.1 h.2.1
  have h2 := uintU_len10 (show x.v.size < 18446744073709551616 by have := h.2.2; omega)
  have h3 : x.v.data.toList.length = x.v.size := rfl
  have h4 := h.2.2
  simp only [sibU, textU, List.length_append, List.length_singleton, h3]; omega
theorem sibs_len : ∀ (l : List Sib), (∀ x ∈ l, SibOk x) → (l.flatMap sibU).length ≤ 71 * l.length
  | [], _ => by simp
  | d :: l, h => by
    have h1 := sibs_len l (fun x hx => h x (List.mem_cons_of_mem _ hx))
    have h3 := sibU_len (h d List.mem_cons_self)
    rw [List.flatMap_cons, List.length_append, List.length_cons]; omega
theorem sibs_snoc {l : List Sib} {k : Nat} (h : k < l.length) : (l.take (k + 1)).flatMap sibU = (l.take k).flatMap sibU ++ uintU l[k].d.a.toNat ++ uintU l[k].d.n.toNat ++ [goneU l[k].gone] ++ textU l[k].v := by
  rw [List.take_succ_eq_append_getElem h, List.flatMap_append]
  simp [sibU, dotU, List.append_assoc]
theorem vecU_len {l : List Dot} (h : l.length ≤ 64) (h2 : ∀ d ∈ l, d.a ≤ 4294967295 ∧ d.n ≤ 1099511627776) : (vecU l).length ≤ 1290 := by
  have h1 := dots_len l h2
  have h3 := uintU_len10 (show l.length < 18446744073709551616 by omega)
  rw [vecU, List.length_append]; omega
set_option maxRecDepth 100000 in
set_option maxHeartbeats 3200000 in
theorem byte_anyK (B g : Nat) (l : List UInt8) (n : Int) (x : UInt8) (w : World) (hw : Wr w B g l) (hn : n = bv x) (hl : l.length + 1 ≤ 140737488355328) :
    Calls Try.prog 64 #[.pointer (some ⟨g, 0, none⟩), .int .u8 n] w fun e w' => e = .returned (.tuple #[]) ∧ Wr w' B g (l ++ [x]) ∧ Below B w w' ∧ Kp w w' g := by
  subst hn
  obtain ⟨hB, v, bg, ho⟩ := hw
  have c0 : w.cell? ⟨g, 0, none⟩ = some v := bg.cell 0
  have f0 := bg.frozen 0
  have lg := bg.lt
  have ng : g ≠ w.heap.size := Nat.ne_of_lt lg
  have BG := Lib.hid bg
  have HO := Lib.hid ho
  have hBw : B ≤ w.heap.size := Nat.le_trans hB (Nat.le_of_lt lg)
  clear bg ho
  go_enter Try.func64, Try.ntmps64
  go_wp2_with (at_builtin; refine app1 rfl (.tmp 10) (.tmp 12) rfl B v l rfl HO.out _ x rfl rfl hl hBw ?_; intro v3 w3 ho_ hg_; obtain ⟨A3, n3, c3, rfl⟩ := ho_.slice'; have B3 : Hid (GR.Blk w3 g 132 #[v]) := Lib.hid (BG.out.grown hg_ (Ne.symm (HO.out.ne_blk BG.out (by decide)))); have HO3 := Lib.hid ho_; have HB3 := Lib.hid ((Below.refl B w).grown hg_ hBw (fun b hb => (HO.out.lt b hb).1)); have HG3 := Lib.hid hg_; clear ho_ hg_; have d0 : w3.cell? ⟨g, 0, none⟩ = some v := B3.out.cell 0; have d1 := B3.out.frozen 0)
  go_end0
  exact ⟨rfl, ⟨hB, _, B3.out.set_ 0 _, HO3.out.set_ (HO3.out.ne_blk (t := 132) B3.out (by decide)) _⟩, HB3.out.setCell hB _, kp_app HO.out HG3.out⟩
set_option maxRecDepth 100000 in
set_option maxHeartbeats 6400000 in
theorem dvvEncode_any (A B : Option Addr) (c d : Nat) (a : List Dot) (l : List Sib) (w : World) (ha : GR.Rd dotK w A a) (hl : GR.Rd sibK w B l) (na : ∀ d ∈ a, 0 ≤ d.n) (nl : ∀ x ∈ l, 0 ≤ x.d.n) (ra : ∀ d ∈ a, 0 ≤ d.a ∧ d.a ≤ 4294967295) (rl : ∀ x ∈ l, 0 ≤ x.d.a ∧ x.d.a ≤ 4294967295) :
    Calls Try.prog 106 #[.agg #[.slice A a.length c, .slice B l.length d]] w fun e w' => e = .returned (.tuple #[.string (encT a l), .int .i64 (encE a l)]) ∧ Below w.heap.size w w' := by
  have hml : l.length * 40 ≤ 140737488355328 := hl.max
  have HA := Lib.hid ha
  have HL := Lib.hid hl
  have NA := Lib.hid na
  have NL := Lib.hid nl
  have RA := Lib.hid ra
  have RL := Lib.hid rl
  clear ha hl na nl ra rl
  go_enter Try.func106, Try.ntmps106
  go_wp2_with fail
  obtain ⟨W1, hW1⟩ : ∃ W1 : World, W1 = w.alloc (.cells #[.slice A a.length c, .slice B l.length d] 25) := ⟨_, rfl⟩
  rw [← hW1]
  have LW : Hid (Below w.heap.size w W1) := Lib.hid (by rw [hW1]; exact (by repeat (first | exact Below.refl _ _ | refine bl_drewN ?_ _ | refine bl_drew ?_ | refine bl_alloc ?_ _)))
  have XA : Hid (GR.Blk W1 w.heap.size 25 #[.slice A a.length c, .slice B l.length d]) := Lib.hid (by rw [hW1]; exact GR.Blk.new _ _ _)
  clear hW1
  refine (dvvValid_any A B c d a l _ (HA.out.below LW.out) (HL.out.below LW.out) NA.out NL.out).mono ?_
  rintro e w2 ⟨rfl, hb2⟩
  have B2 := Lib.hid (bl_then LW.out hb2)
  have X2 := Lib.hid (XA.out.below hb2 XA.out.lt)
  clear hb2
  by_cases h1 : staB a l = false
  · have HT := Lib.hid (show encT a l = ⟨#[]⟩ by rw [encT, h1]; rfl)
    have HE := Lib.hid (show encE a l = 110 by rw [encE, h1]; rfl)
    rw [h1]
    go_wp2
    try rw [Exit.noGoto_ret]
    exact bodyPost_ret (v := .tuple #[.string ⟨#[]⟩, .int .i64 110]) (by simp [results, Try.results106, go_sem]) rfl ⟨by rw [HT.out, HE.out], B2.out⟩
  · replace h1 : staB a l = true := by simpa using h1
    rw [h1]
    have HT := Lib.hid (show encT a l = ⟨(encS a l).toArray⟩ by rw [encT, h1]; rfl)
    have HE := Lib.hid (show encE a l = 0 by rw [encE, h1]; rfl)
    have h64 : l.length ≤ 64 := (sta_ok h1).2.1
    have HV := Lib.hid (sta_ok h1).1
    have HVL := Lib.hid (vecU_len (vec_len (sta_ok h1).1) (fun d hd => ⟨(RA.out d hd).2, (vec_ok (sta_ok h1).1 d hd).2⟩))
    have HSO : Hid (∀ x ∈ l, SibOk x) := Lib.hid (fun x hx => by
      have h2 := (sta_ok h1).2.2 x hx
      have h3 := (cov_vec (sta_ok h1).1 x.d).1 h2.1
      have h4 := look_bound (sta_ok h1).1 x.d.a
      exact ⟨(RL.out x hx).2, by omega, h2.2.1⟩)
    clear h1
    have hg2 : w.heap.size < w2.heap.size := X2.out.lt
    have u10 := uintU_len10 (show l.length < 18446744073709551616 by omega)
    have HAR := Lib.hid (HA.out.below B2.out)
    have HLR := Lib.hid (HL.out.below B2.out)
    go_wp2_with fail
    refine (newWriter_any _).mono ?_
    rintro e w3 ⟨rfl, hw3, hb3⟩
    have W3 := Lib.hid hw3
    have B3 := Lib.hid hb3
    have ps_0 : w3.cell? ⟨w.heap.size, 0, none⟩ = some (.slice A a.length c) := (X2.out.below hb3 hg2).cell 0
    have ps_1 : w3.cell? ⟨w.heap.size, 1, none⟩ = some (.slice B l.length d) := (X2.out.below hb3 hg2).cell 1
    clear hw3 hb3
    go_wp2_with fail
    refine (vput_any A c w2.heap.size a [] w2 w3 HAR.out B3.out W3.out HV.out RA.out (by simp)).mono ?_
    rintro e w4 ⟨rfl, hw4, hb4⟩
    have W4 := Lib.hid hw4
    have B4 := Lib.hid (B3.out.trans hb4)
    clear hw4 hb4 ps_0 ps_1
    have ps_0 : w4.cell? ⟨w.heap.size, 0, none⟩ = some (.slice A a.length c) := (X2.out.below B4.out hg2).cell 0
    have ps_1 : w4.cell? ⟨w.heap.size, 1, none⟩ = some (.slice B l.length d) := (X2.out.below B4.out hg2).cell 1
    have hvl := HVL.out
    have e0 : IntKind.u64.wrap (l.length : Int) = (l.length : Int) := IntWalk.u64_in _ (by omega)
    go_wp2_with fail
    refine (uint_any w2.heap.size w2.heap.size _ l.length (by omega) _ W4.out (by rw [List.nil_append]; omega)).mono ?_
    rintro e w5 ⟨rfl, hw5, hb5, _⟩
    have W5 := Lib.hid hw5
    have B5 := Lib.hid (B4.out.trans hb5)
    clear hw5 hb5 ps_0 ps_1 e0
    have ps_1 : w5.cell? ⟨w.heap.size, 1, none⟩ = some (.slice B l.length d) := (X2.out.below B5.out hg2).cell 1
    go_wp2
    clear ps_1
    go_loopw [25] (fun ii w' => ∃ i : Nat, ii = .int .i64 i ∧ i ≤ l.length ∧ Hid (Wr w' w2.heap.size w2.heap.size (vecU a ++ uintU l.length ++ (l.take i).flatMap sibU)) ∧ Hid (Below w2.heap.size w2 w')) (fun ii _ => l.length - (intOf ii).toNat)
    case atStart => exact ⟨0, rfl, Nat.zero_le _, Lib.hid (by simpa using W5.out), B5⟩
    case round =>
      obtain ⟨i, rfl, hi, hw3, hb3⟩ := hrel
      by_cases hlt : i < l.length
      · have i0 : (0 : Int) ≤ (i : Int) := by omega
        have i1 : (i : Int) < (l.length : Int) := by omega
        obtain ⟨ad, eA, _, x0, x1, x2, x3⟩ := sib_at (HLR.out.below hb3.out) i hlt
        have hx := RL.out _ (List.getElem_mem hlt)
        have hy := HSO.out _ (List.getElem_mem hlt)
        have hz := NL.out _ (List.getElem_mem hlt)
        have hlen : ((l.take i).flatMap sibU).length ≤ 5000 := by
          have := sibs_len (l.take i) (fun d hd => HSO.out d (List.mem_of_mem_take hd))
          simp at this ⊢; omega
        have hbl : (vecU a ++ uintU l.length ++ (l.take i).flatMap sibU).length ≤ 10000 := by simp only [List.length_append]; omega
        have HSN := Lib.hid (sibs_snoc hlt)
        obtain ⟨p, hp⟩ : ∃ p : Nat, l[i].d.a = p := ⟨l[i].d.a.toNat, by omega⟩
        obtain ⟨q, hq⟩ : ∃ q : Nat, l[i].d.n = q := ⟨l[i].d.n.toNat, by omega⟩
        have hp2 : p ≤ 4294967295 := by omega
        have hq2 : q ≤ 1099511627776 := by have := hy.2.1; omega
        have hv2 : l[i].v.size ≤ 40 := hy.2.2
        have e1 : IntKind.u64.wrap (p : Int) = (p : Int) := IntWalk.u64_in _ (by omega)
        have HSP := Lib.hid (show l[i].d.a.toNat = p by omega)
        have HSQ := Lib.hid (show l[i].d.n.toNat = q by omega)
        rw [hp] at x0
        rw [hq] at x1
        subst eA
        clear hp hq hx hy hz
        have hs3 : w2.heap.size ≤ wr.heap.size := hb3.out.size
        go_wp2_with fail
        obtain ⟨W4, hW4⟩ : ∃ W : World, W = wr.alloc (.cells #[.int .u32 p, .int .u64 q, .bool l[i].gone, .string l[i].v] 67) := ⟨_, rfl⟩
        rw [← hW4]
        have L4 : Hid (Below wr.heap.size wr W4) := Lib.hid (by rw [hW4]; exact (by repeat (first | exact Below.refl _ _ | refine bl_drewN ?_ _ | refine bl_drew ?_ | refine bl_alloc ?_ _)))
        have X4 : Hid (GR.Blk W4 wr.heap.size 67 #[.int .u32 p, .int .u64 q, .bool l[i].gone, .string l[i].v]) := Lib.hid (by rw [hW4]; exact GR.Blk.new _ _ _)
        clear hW4 x0 x1 x2 x3
        have W4w := Lib.hid (hw3.out.below L4.out)
        have hgw : wr.heap.size ≠ w2.heap.size := fun e => by
          obtain ⟨_, v, bg, _⟩ := hw3.out
          have := bg.lt; omega
        refine (uint_any w2.heap.size w2.heap.size _ p (by omega) _ W4w.out (by omega)).mono ?_
        rintro e w5 ⟨rfl, hw5, hb5, kp5⟩
        have X5 := Lib.hid (kp5 _ _ _ X4.out (by decide) hgw)
        have y1 : w5.cell? ⟨wr.heap.size, 1, none⟩ = some (.int .u64 q) := X5.out.cell 1
        have W5 := Lib.hid hw5
        have B5 := Lib.hid ((Below.mono L4.out hs3).trans hb5)
        have u1 := uintU_len10 (show p < 18446744073709551616 by omega)
        have u2 := uintU_len10 (show q < 18446744073709551616 by omega)
        clear hw5 hb5 kp5
        go_wp2_with fail
        refine (uint_any w2.heap.size w2.heap.size _ q (by omega) _ W5.out (by rw [List.length_append]; omega)).mono ?_
        rintro e w6 ⟨rfl, hw6, hb6, kp6⟩
        have X6 := Lib.hid (kp6 _ _ _ X5.out (by decide) hgw)
        have W6 := Lib.hid hw6
        have B6 := Lib.hid (B5.out.trans hb6)
        clear hw6 hb6 kp6 y1
        have z1 : w6.cell? ⟨wr.heap.size, 2, none⟩ = some (.bool l[i].gone) := X6.out.cell 2
        rcases hgn : l[i].gone with _ | _
        · rw [hgn] at z1
          go_wp2_with fail
          refine (byte_anyK w2.heap.size w2.heap.size _ 0 (goneU l[i].gone) _ W6.out (by rw [hgn]; rfl) (by simp only [List.length_append]; omega)).mono ?_
          rintro e w7 ⟨rfl, hw7, hb7, kp7⟩
          have X7 := Lib.hid (kp7 _ _ _ X6.out (by decide) hgw)
          have W7 := Lib.hid hw7
          have B7 := Lib.hid (B6.out.trans hb7)
          clear hw7 hb7 kp7 z1
          have y3 : w7.cell? ⟨wr.heap.size, 3, none⟩ = some (.string l[i].v) := X7.out.cell 3
          clear hgn
          go_wp2_with fail
          refine (wtext_any w2.heap.size w2.heap.size _ l[i].v _ W7.out (by simp only [List.length_append, List.length_singleton]; omega)).mono ?_
          rintro e w8 ⟨rfl, hw8, hb8, _⟩
          have W8 := Lib.hid hw8
          have B8 := Lib.hid (hb3.out.trans (B7.out.trans hb8))
          clear hw8 hb8 y3
          go_wp2
          go_roundw
          case rel => exact ⟨i + 1, by go_num, by omega, Lib.hid (by rw [HSN.out, HSP.out, HSQ.out]; simpa only [List.append_assoc] using W8.out), B8⟩
          case measure => simp [intOf]; omega
        · rw [hgn] at z1
          go_wp2_with fail
          refine (byte_anyK w2.heap.size w2.heap.size _ 1 (goneU l[i].gone) _ W6.out (by rw [hgn]; rfl) (by simp only [List.length_append]; omega)).mono ?_
          rintro e w7 ⟨rfl, hw7, hb7, kp7⟩
          have X7 := Lib.hid (kp7 _ _ _ X6.out (by decide) hgw)
          have W7 := Lib.hid hw7
          have B7 := Lib.hid (B6.out.trans hb7)
          clear hw7 hb7 kp7 z1
          have y3 : w7.cell? ⟨wr.heap.size, 3, none⟩ = some (.string l[i].v) := X7.out.cell 3
          clear hgn
          go_wp2_with fail
          refine (wtext_any w2.heap.size w2.heap.size _ l[i].v _ W7.out (by simp only [List.length_append, List.length_singleton]; omega)).mono ?_
          rintro e w8 ⟨rfl, hw8, hb8, _⟩
          have W8 := Lib.hid hw8
          have B8 := Lib.hid (hb3.out.trans (B7.out.trans hb8))
          clear hw8 hb8 y3
          go_wp2
          go_roundw
          case rel => exact ⟨i + 1, by go_num, by omega, Lib.hid (by rw [HSN.out, HSP.out, HSQ.out]; simpa only [List.append_assoc] using W8.out), B8⟩
          case measure => simp [intOf]; omega
      · obtain rfl : i = l.length := by omega
        have W7 := Lib.hid (show Wr wr w2.heap.size w2.heap.size (encS a l) by have := hw3.out; rw [List.take_length] at this; exact this)
        go_wp2_with fail
        refine (told_any w2.heap.size w2.heap.size _ _ W7.out).mono ?_
        rintro e w9 ⟨rfl, rfl⟩
        go_wp2
        try rw [Exit.noGoto_ret]
        exact bodyPost_ret (v := .tuple #[.string ⟨(encS a l).toArray⟩, .int .i64 0]) (by simp [results, Try.results106, go_sem]) rfl ⟨by rw [HT.out, HE.out], bl_then B2.out hb3.out⟩
end Go.Proofs.Ytljfigikkajlnaa
