/- DERIVED. DvvLattice: the walk of the law. -/
import Derived.Test.YtlmnmlehnigfdaaDvAwake
import Derived.Test.YtlmnmlehnigfdaaDvLat2
import Derived.Test.YtlmnmlehnigfdaaDvRefValid
namespace Go.Proofs.Ytlmnmlehnigfdaa
open Go.RowKit
set_option linter.unusedVariables false
set_option linter.unusedSimpArgs false

theorem join_two {a b : List Dot} {l m : List Sib} (ha : VS a l) (hb : VS b m) (h : joinE a l b m ≠ 0) : joinE a l b m = 82 := by
  unfold joinE at h ⊢
  rw [ha, hb] at h ⊢
  simp only [Bool.and_self, if_true] at h ⊢
  split
  · rename_i h1
    rw [if_pos h1] at h
    split
    · rename_i h2; rw [if_pos h2] at h; exact absurd rfl h
    · rfl
  · rfl
theorem dsame_at (A B C D : Option Addr) (c1 c2 c3 c4 n m n' m' : Nat) (a b : List Dot) (l k : List Sib) (r : Bool) (w : World) (ha : GR.Rd dotK w A a) (hl : GR.Rd sibK w B l) (hb : GR.Rd dotK w C b) (hm : GR.Rd sibK w D k) (h1 : n = a.length) (h2 : m = l.length) (h3 : n' = b.length) (h4 : m' = k.length) (hr : stEq a l b k = r) :
    Calls Try.prog 30 #[.agg #[.slice A n c1, .slice B m c2], .agg #[.slice C n' c3, .slice D m' c4]] w fun e w' => e = .returned (.bool r) ∧ Below w.heap.size w w' := by
  subst h1 h2 h3 h4 hr
  exact dvvSame_any A B C D c1 c2 c3 c4 a b l k w ha hl hb hm
theorem bel_at2 (A B C D : Option Addr) (c1 c2 c3 c4 n m n' m' : Nat) (a b : List Dot) (l k : List Sib) (r : Bool) (w : World) (ha : GR.Rd dotK w A a) (hl : GR.Rd sibK w B l) (hb : GR.Rd dotK w C b) (hm : GR.Rd sibK w D k) (h1 : n = a.length) (h2 : m = l.length) (h3 : n' = b.length) (h4 : m' = k.length) (hca : n ≤ c1) (hcb : n' ≤ c3)
    (na : ∀ d ∈ a, 0 ≤ d.n) (nl : ∀ x ∈ l, 0 ≤ x.d.n) (nb : ∀ d ∈ b, 0 ≤ d.n) (nm : ∀ x ∈ k, 0 ≤ x.d.n) (hr : belS a l b k = r) :
    Calls Try.prog 31 #[.agg #[.slice A n c1, .slice B m c2], .agg #[.slice C n' c3, .slice D m' c4]] w fun e w' => e = .returned (.bool r) ∧ Below w.heap.size w w' := by
  subst h1 h2 h3 h4 hr
  exact dvvBelow_any A B C D c1 c2 c3 c4 a b l k w ha hl hb hm hca hcb na nl nb nm
theorem valid_at (A B : Option Addr) (c1 c2 n m : Nat) (a : List Dot) (l : List Sib) (r : Bool) (w : World) (ha : GR.Rd dotK w A a) (hl : GR.Rd sibK w B l) (h1 : n = a.length) (h2 : m = l.length) (na : ∀ d ∈ a, 0 ≤ d.n) (nl : ∀ x ∈ l, 0 ≤ x.d.n) (hr : staB a l = r) :
    Calls Try.prog 26 #[.agg #[.slice A n c1, .slice B m c2]] w fun e w' => e = .returned (.bool r) ∧ Below w.heap.size w w' := by
  subst h1 h2 hr
  exact dvvValid_any A B c1 c2 a l w ha hl na nl
theorem rvalid_at (A B : Option Addr) (c1 c2 n m : Nat) (a : List Dot) (l : List Sib) (r : Bool) (w : World) (ha : GR.Rd dotK w A a) (hl : GR.Rd sibK w B l) (h1 : n = a.length) (h2 : m = l.length) (na : ∀ d ∈ a, 0 ≤ d.n) (nl : ∀ x ∈ l, 0 ≤ x.d.n) (hr : staB a l = r) :
    Calls Try.prog 29 #[.agg #[.slice A n c1, .slice B m c2]] w fun e w' => e = .returned (.bool r) ∧ Below w.heap.size w w' := by
  subst h1 h2 hr
  exact refSta_any A B c1 c2 a l w ha hl na nl

set_option maxRecDepth 100000 in
set_option maxHeartbeats 51200000 in
theorem lattice_walk (A1 B1 A2 B2 A3 B3 : Option Addr) (c1 d1 c2 d2 c3 d3 : Nat) (a b c : List Dot) (l m n : List Sib) (w : World) (ha : GR.Rd dotK w A1 a) (hl : GR.Rd sibK w B1 l) (hb : GR.Rd dotK w A2 b) (hm : GR.Rd sibK w B2 m) (hc : GR.Rd dotK w A3 c) (hn : GR.Rd sibK w B3 n)
    (hca : a.length ≤ c1) (hcb : b.length ≤ c2) (hcc : c.length ≤ c3) (na : ∀ d ∈ a, 0 ≤ d.n) (nl : ∀ x ∈ l, 0 ≤ x.d.n) (nb : ∀ d ∈ b, 0 ≤ d.n) (nm : ∀ x ∈ m, 0 ≤ x.d.n) (nc : ∀ d ∈ c, 0 ≤ d.n) (nn : ∀ x ∈ n, 0 ≤ x.d.n) :
    Calls Try.prog 8 #[.agg #[.slice A1 a.length c1, .slice B1 l.length d1], .agg #[.slice A2 b.length c2, .slice B2 m.length d2], .agg #[.slice A3 c.length c3, .slice B3 n.length d3]] w fun e w' => e = .returned (.bool true) ∧ Below w.heap.size w w' := by
  have HA := Lib.hid ha
  have HL := Lib.hid hl
  have HB := Lib.hid hb
  have HM := Lib.hid hm
  have HC := Lib.hid hc
  have HN := Lib.hid hn
  have NA := Lib.hid na
  have NL := Lib.hid nl
  have NB := Lib.hid nb
  have NM := Lib.hid nm
  have NC := Lib.hid nc
  have NN := Lib.hid nn
  clear ha hl hb hm hc hn na nl nb nm nc nn
  go_enter Try.func8, Try.ntmps8
  go_wp2_with fail
  obtain ⟨W1, hW1⟩ : ∃ W1 : World, W1 = ((w.alloc (.cells #[.slice A1 a.length c1, .slice B1 l.length d1] 25)).alloc (.cells #[.slice A2 b.length c2, .slice B2 m.length d2] 25)).alloc (.cells #[.slice A3 c.length c3, .slice B3 n.length d3] 25) := ⟨_, rfl⟩
  rw [← hW1]
  have LW : Hid (Below w.heap.size w W1) := Lib.hid (by rw [hW1]; exact (by repeat (first | exact Below.refl _ _ | refine bl_drewN ?_ _ | refine bl_drew ?_ | refine bl_alloc ?_ _)))
  have XA : Hid (GR.Blk W1 w.heap.size 25 #[.slice A1 a.length c1, .slice B1 l.length d1]) := Lib.hid (by rw [hW1]; exact ((GR.Blk.new _ _ _).alloc _).alloc _)
  have XB : Hid (GR.Blk W1 (w.heap.size + 1) 25 #[.slice A2 b.length c2, .slice B2 m.length d2]) := Lib.hid (by rw [hW1]; exact (new_at _ _ _ (by simp)).alloc _)
  have XC : Hid (GR.Blk W1 (w.heap.size + 1 + 1) 25 #[.slice A3 c.length c3, .slice B3 n.length d3]) := Lib.hid (by rw [hW1]; exact new_at _ _ _ (by simp))
  clear hW1
  have F1 := Lib.hid (HS.nil W1)
  have F2 := Lib.hid (HS.addB F1.out (g := w.heap.size) (t := 25) (cs := #[.slice A1 a.length c1, .slice B1 l.length d1]) (XA.out))
  clear F1
  have F3 := Lib.hid (HS.addB F2.out (g := w.heap.size + 1) (t := 25) (cs := #[.slice A2 b.length c2, .slice B2 m.length d2]) (XB.out))
  clear F2
  have F4 := Lib.hid (HS.addB F3.out (g := w.heap.size + 1 + 1) (t := 25) (cs := #[.slice A3 c.length c3, .slice B3 n.length d3]) (XC.out))
  clear F3
  have F5 := Lib.hid (F4.out.addR (HA.out.below LW.out))
  clear F4
  have F6 := Lib.hid (F5.out.addR (HL.out.below LW.out))
  clear F5
  have F7 := Lib.hid (F6.out.addR (HB.out.below LW.out))
  clear F6
  have F8 := Lib.hid (F7.out.addR (HM.out.below LW.out))
  clear F7
  have F9 := Lib.hid (F8.out.addR (HC.out.below LW.out))
  clear F8
  have F10 := Lib.hid (F9.out.addR (HN.out.below LW.out))
  clear F9
  clear XA XB XC
  have BB := Lib.hid (Below.refl W1.heap.size W1)
  refine (awake_any _).mono ?_
  rintro e w2 ⟨rfl, hb⟩
  have F11 := Lib.hid (F10.out.below hb)
  clear F10
  replace BB := Lib.hid (bl_then BB.out hb)
  clear hb
  have pa_0 : w2.cell? ⟨w.heap.size, 0, none⟩ = some (.slice A1 a.length c1) := (F11.out.blk 8 rfl).cell 0
  have pa_1 : w2.cell? ⟨w.heap.size, 1, none⟩ = some (.slice B1 l.length d1) := (F11.out.blk 8 rfl).cell 1
  go_wp2_with fail
  clear pa_0 pa_1
  by_cases h1 : staB a l = false
  · skip
    refine (rvalid_at _ _ _ _ _ _ a l false _ (F11.out.rd 5 rfl) (F11.out.rd 4 rfl) rfl rfl NA.out NL.out h1).mono ?_
    rintro e w3 ⟨rfl, hb⟩
    have F12 := Lib.hid (F11.out.below hb)
    clear F11
    replace BB := Lib.hid (bl_then BB.out hb)
    clear hb
    have pa_0 : w3.cell? ⟨w.heap.size, 0, none⟩ = some (.slice A1 a.length c1) := (F12.out.blk 8 rfl).cell 0
    have pa_1 : w3.cell? ⟨w.heap.size, 1, none⟩ = some (.slice B1 l.length d1) := (F12.out.blk 8 rfl).cell 1
    have pb_0 : w3.cell? ⟨w.heap.size + 1, 0, none⟩ = some (.slice A2 b.length c2) := (F12.out.blk 7 rfl).cell 0
    have pb_1 : w3.cell? ⟨w.heap.size + 1, 1, none⟩ = some (.slice B2 m.length d2) := (F12.out.blk 7 rfl).cell 1
    go_wp2_with fail
    clear pa_0 pa_1 pb_0 pb_1
    have HJ := join_bad (a := a) (l := l) (b := b) (m := m) (.inl h1)
    refine (join_at _ _ _ _ _ _ _ _ _ _ _ _ a b l m _ (F12.out.rd 5 rfl) (F12.out.rd 4 rfl) (F12.out.rd 3 rfl) (F12.out.rd 2 rfl) rfl rfl rfl rfl hca hcb NA.out NL.out NB.out NM.out).mono ?_
    rintro e w4 ⟨v1, v2, rfl, ho, hb⟩
    have F13 := Lib.hid (F12.out.below hb)
    clear F12
    replace BB := Lib.hid (bl_then BB.out hb)
    rw [HJ.1]
    rw [HJ.2.1, HJ.2.2] at ho
    obtain ⟨Ad, nd, kd, rfl⟩ := own_slice ho.d (by simp)
    obtain ⟨As, ns, ks, rfl⟩ := own_slice ho.s (by simp)
    clear ho hb HJ
    go_wp2
    go_ret
    exact ⟨rfl, bl_then LW.out (by repeat (first | exact BB.out | refine bl_drewN ?_ _ | refine bl_drew ?_ | refine bl_alloc ?_ _))⟩
  · replace h1 : staB a l = true := by simpa using h1
    refine (rvalid_at _ _ _ _ _ _ a l true _ (F11.out.rd 5 rfl) (F11.out.rd 4 rfl) rfl rfl NA.out NL.out h1).mono ?_
    rintro e w5 ⟨rfl, hb⟩
    have F14 := Lib.hid (F11.out.below hb)
    clear F11
    replace BB := Lib.hid (bl_then BB.out hb)
    have H1 := Lib.hid h1
    clear hb h1
    have pb_0 : w5.cell? ⟨w.heap.size + 1, 0, none⟩ = some (.slice A2 b.length c2) := (F14.out.blk 7 rfl).cell 0
    have pb_1 : w5.cell? ⟨w.heap.size + 1, 1, none⟩ = some (.slice B2 m.length d2) := (F14.out.blk 7 rfl).cell 1
    go_wp2_with fail
    clear pb_0 pb_1
    by_cases h2 : staB b m = false
    · skip
      refine (rvalid_at _ _ _ _ _ _ b m false _ (F14.out.rd 3 rfl) (F14.out.rd 2 rfl) rfl rfl NB.out NM.out h2).mono ?_
      rintro e w6 ⟨rfl, hb⟩
      have F15 := Lib.hid (F14.out.below hb)
      clear F14
      replace BB := Lib.hid (bl_then BB.out hb)
      clear hb
      have pa_0 : w6.cell? ⟨w.heap.size, 0, none⟩ = some (.slice A1 a.length c1) := (F15.out.blk 8 rfl).cell 0
      have pa_1 : w6.cell? ⟨w.heap.size, 1, none⟩ = some (.slice B1 l.length d1) := (F15.out.blk 8 rfl).cell 1
      have pb_0 : w6.cell? ⟨w.heap.size + 1, 0, none⟩ = some (.slice A2 b.length c2) := (F15.out.blk 7 rfl).cell 0
      have pb_1 : w6.cell? ⟨w.heap.size + 1, 1, none⟩ = some (.slice B2 m.length d2) := (F15.out.blk 7 rfl).cell 1
      go_wp2_with fail
      clear pa_0 pa_1 pb_0 pb_1
      have HJ := join_bad (a := a) (l := l) (b := b) (m := m) (.inr h2)
      refine (join_at _ _ _ _ _ _ _ _ _ _ _ _ a b l m _ (F15.out.rd 5 rfl) (F15.out.rd 4 rfl) (F15.out.rd 3 rfl) (F15.out.rd 2 rfl) rfl rfl rfl rfl hca hcb NA.out NL.out NB.out NM.out).mono ?_
      rintro e w7 ⟨v1, v2, rfl, ho, hb⟩
      have F16 := Lib.hid (F15.out.below hb)
      clear F15
      replace BB := Lib.hid (bl_then BB.out hb)
      rw [HJ.1]
      rw [HJ.2.1, HJ.2.2] at ho
      obtain ⟨Ad, nd, kd, rfl⟩ := own_slice ho.d (by simp)
      obtain ⟨As, ns, ks, rfl⟩ := own_slice ho.s (by simp)
      clear ho hb HJ
      go_wp2
      go_ret
      exact ⟨rfl, bl_then LW.out (by repeat (first | exact BB.out | refine bl_drewN ?_ _ | refine bl_drew ?_ | refine bl_alloc ?_ _))⟩
    · replace h2 : staB b m = true := by simpa using h2
      refine (rvalid_at _ _ _ _ _ _ b m true _ (F14.out.rd 3 rfl) (F14.out.rd 2 rfl) rfl rfl NB.out NM.out h2).mono ?_
      rintro e w8 ⟨rfl, hb⟩
      have F17 := Lib.hid (F14.out.below hb)
      clear F14
      replace BB := Lib.hid (bl_then BB.out hb)
      have H2 := Lib.hid h2
      clear hb h2
      have pc_0 : w8.cell? ⟨w.heap.size + 1 + 1, 0, none⟩ = some (.slice A3 c.length c3) := (F17.out.blk 6 rfl).cell 0
      have pc_1 : w8.cell? ⟨w.heap.size + 1 + 1, 1, none⟩ = some (.slice B3 n.length d3) := (F17.out.blk 6 rfl).cell 1
      go_wp2_with fail
      clear pc_0 pc_1
      by_cases h3 : staB c n = false
      · skip
        refine (rvalid_at _ _ _ _ _ _ c n false _ (F17.out.rd 1 rfl) (F17.out.rd 0 rfl) rfl rfl NC.out NN.out h3).mono ?_
        rintro e w9 ⟨rfl, hb⟩
        have F18 := Lib.hid (F17.out.below hb)
        clear F17
        replace BB := Lib.hid (bl_then BB.out hb)
        clear hb
        have pc_0 : w9.cell? ⟨w.heap.size + 1 + 1, 0, none⟩ = some (.slice A3 c.length c3) := (F18.out.blk 6 rfl).cell 0
        have pc_1 : w9.cell? ⟨w.heap.size + 1 + 1, 1, none⟩ = some (.slice B3 n.length d3) := (F18.out.blk 6 rfl).cell 1
        go_wp2_with fail
        clear pc_0 pc_1
        refine (valid_at _ _ _ _ _ _ c n false _ (F18.out.rd 1 rfl) (F18.out.rd 0 rfl) rfl rfl NC.out NN.out h3).mono ?_
        rintro e w10 ⟨rfl, hb⟩
        have F19 := Lib.hid (F18.out.below hb)
        clear F18
        replace BB := Lib.hid (bl_then BB.out hb)
        clear hb
        go_wp2
        go_ret
        exact ⟨rfl, bl_then LW.out (by repeat (first | exact BB.out | refine bl_drewN ?_ _ | refine bl_drew ?_ | refine bl_alloc ?_ _))⟩
      · replace h3 : staB c n = true := by simpa using h3
        refine (rvalid_at _ _ _ _ _ _ c n true _ (F17.out.rd 1 rfl) (F17.out.rd 0 rfl) rfl rfl NC.out NN.out h3).mono ?_
        rintro e w11 ⟨rfl, hb⟩
        have F20 := Lib.hid (F17.out.below hb)
        clear F17
        replace BB := Lib.hid (bl_then BB.out hb)
        have H3 := Lib.hid h3
        clear hb h3
        have pa_0 : w11.cell? ⟨w.heap.size, 0, none⟩ = some (.slice A1 a.length c1) := (F20.out.blk 8 rfl).cell 0
        have pa_1 : w11.cell? ⟨w.heap.size, 1, none⟩ = some (.slice B1 l.length d1) := (F20.out.blk 8 rfl).cell 1
        go_wp2_with fail
        clear pa_0 pa_1
        have ja := sta_ok H1.out
        have la := vec_len ja.1
        have ll := ja.2.1
        have JS := Lib.hid (join_self H1.out)
        have JN := Lib.hid (join_nil H1.out)
        refine (join_at _ _ _ _ _ _ _ _ _ _ _ _ a a l l _ (F20.out.rd 5 rfl) (F20.out.rd 4 rfl) (F20.out.rd 5 rfl) (F20.out.rd 4 rfl) rfl rfl rfl rfl hca hca NA.out NL.out NA.out NL.out).mono ?_
        rintro e w12 ⟨v1, v2, rfl, ho, hb⟩
        rw [JS.out.1]
        rw [JS.out.2.1, JS.out.2.2] at ho
        have jd_x : a.length * 16 ≤ 140737488355328 := by omega
        have js_x : l.length * 40 ≤ 140737488355328 := by omega
        obtain ⟨Adx, ndx, kdx, rfl⟩ := own_slice ho.d jd_x
        obtain ⟨Asx, nsx, ksx, rfl⟩ := own_slice ho.s js_x
        obtain rfl : ndx = a.length := own_n' ho.d
        obtain rfl : nsx = l.length := own_n' ho.s
        have F21 := Lib.hid (F20.out.below hb)
        clear F20
        replace BB := Lib.hid (bl_then BB.out hb)
        have F22 := Lib.hid (F21.out.addO (ho))
        clear F21
        clear ho hb
        have pa_0 : w12.cell? ⟨w.heap.size, 0, none⟩ = some (.slice A1 a.length c1) := (F22.out.blk 9 rfl).cell 0
        have pa_1 : w12.cell? ⟨w.heap.size, 1, none⟩ = some (.slice B1 l.length d1) := (F22.out.blk 9 rfl).cell 1
        have pa_lt : w.heap.size < w12.heap.size := (F22.out.blk 9 rfl).lt
        go_wp2_with fail
        obtain ⟨W13, hW13⟩ : ∃ W : World, W = w12.alloc (.cells #[.slice Adx a.length kdx, .slice Asx l.length ksx] 25) := ⟨_, rfl⟩
        rw [← hW13]
        have LW13 : Hid (Below w12.heap.size w12 W13) := Lib.hid (by rw [hW13]; exact (by repeat (first | exact Below.refl _ _ | refine bl_drewN ?_ _ | refine bl_drew ?_ | refine bl_alloc ?_ _)))
        have XW13 : Hid (GR.Blk W13 w12.heap.size 25 #[.slice Adx a.length kdx, .slice Asx l.length ksx]) := Lib.hid (by rw [hW13]; exact GR.Blk.new _ _ _)
        clear hW13
        clear pa_0 pa_1 pa_lt
        have F23 := Lib.hid (F22.out.below LW13.out)
        clear F22
        have F24 := Lib.hid (HS.addB F23.out (g := w12.heap.size) (t := 25) (cs := #[.slice Adx a.length kdx, .slice Asx l.length ksx]) (XW13.out))
        clear F23
        replace BB := Lib.hid (bl_then BB.out LW13.out)
        refine (join_at _ _ _ _ _ _ _ _ _ _ _ _ a [] l [] _ (F24.out.rd 7 rfl) (F24.out.rd 6 rfl) (GR.Rd.nil _ _ _) (GR.Rd.nil _ _ _) rfl rfl rfl rfl hca (Nat.le_refl _) NA.out NL.out (fun d hd => by cases hd) (fun d hd => by cases hd)).mono ?_
        rintro e w14 ⟨v1, v2, rfl, ho, hb⟩
        rw [JN.out.1]
        rw [JN.out.2.1, JN.out.2.2] at ho
        have jd_y : a.length * 16 ≤ 140737488355328 := by omega
        have js_y : l.length * 40 ≤ 140737488355328 := by omega
        obtain ⟨Ady, ndy, kdy, rfl⟩ := own_slice ho.d jd_y
        obtain ⟨Asy, nsy, ksy, rfl⟩ := own_slice ho.s js_y
        obtain rfl : ndy = a.length := own_n' ho.d
        obtain rfl : nsy = l.length := own_n' ho.s
        have F25 := Lib.hid (F24.out.below hb)
        clear F24
        replace BB := Lib.hid (bl_then BB.out hb)
        have F26 := Lib.hid (F25.out.addO (ho))
        clear F25
        clear ho hb
        have px_0 : w14.cell? ⟨w12.heap.size, 0, none⟩ = some (.slice Adx a.length kdx) := (F26.out.blk 1 rfl).cell 0
        have px_1 : w14.cell? ⟨w12.heap.size, 1, none⟩ = some (.slice Asx l.length ksx) := (F26.out.blk 1 rfl).cell 1
        have pa_0 : w14.cell? ⟨w.heap.size, 0, none⟩ = some (.slice A1 a.length c1) := (F26.out.blk 11 rfl).cell 0
        have pa_1 : w14.cell? ⟨w.heap.size, 1, none⟩ = some (.slice B1 l.length d1) := (F26.out.blk 11 rfl).cell 1
        have px_lt : w12.heap.size < w14.heap.size := (F26.out.blk 1 rfl).lt
        have pa_lt : w.heap.size < w14.heap.size := (F26.out.blk 11 rfl).lt
        go_wp2_with fail
        obtain ⟨W15, hW15⟩ : ∃ W : World, W = w14.alloc (.cells #[.slice Ady a.length kdy, .slice Asy l.length ksy] 25) := ⟨_, rfl⟩
        rw [← hW15]
        have LW15 : Hid (Below w14.heap.size w14 W15) := Lib.hid (by rw [hW15]; exact (by repeat (first | exact Below.refl _ _ | refine bl_drewN ?_ _ | refine bl_drew ?_ | refine bl_alloc ?_ _)))
        have XW15 : Hid (GR.Blk W15 w14.heap.size 25 #[.slice Ady a.length kdy, .slice Asy l.length ksy]) := Lib.hid (by rw [hW15]; exact GR.Blk.new _ _ _)
        clear hW15
        clear px_0 px_1 px_lt pa_0 pa_1 pa_lt
        have F27 := Lib.hid (F26.out.below LW15.out)
        clear F26
        have F28 := Lib.hid (HS.addB F27.out (g := w14.heap.size) (t := 25) (cs := #[.slice Ady a.length kdy, .slice Asy l.length ksy]) (XW15.out))
        clear F27
        replace BB := Lib.hid (bl_then BB.out LW15.out)
        refine (dsame_at _ _ _ _ _ _ _ _ _ _ _ _ a a l l true _ (GR.Own.rd ((F28.out.own 3 rfl).d) jd_x).2.2 (GR.Own.rd ((F28.out.own 3 rfl).s) js_x).2.2 (F28.out.rd 9 rfl) (F28.out.rd 8 rfl) rfl rfl rfl rfl (by simp [stEq])).mono ?_
        rintro e w16 ⟨rfl, hb⟩
        have F29 := Lib.hid (F28.out.below hb)
        clear F28
        replace BB := Lib.hid (bl_then BB.out hb)
        clear hb
        have py_0 : w16.cell? ⟨w14.heap.size, 0, none⟩ = some (.slice Ady a.length kdy) := (F29.out.blk 0 rfl).cell 0
        have py_1 : w16.cell? ⟨w14.heap.size, 1, none⟩ = some (.slice Asy l.length ksy) := (F29.out.blk 0 rfl).cell 1
        have pa_0 : w16.cell? ⟨w.heap.size, 0, none⟩ = some (.slice A1 a.length c1) := (F29.out.blk 12 rfl).cell 0
        have pa_1 : w16.cell? ⟨w.heap.size, 1, none⟩ = some (.slice B1 l.length d1) := (F29.out.blk 12 rfl).cell 1
        go_wp2_with fail
        clear py_0 py_1 pa_0 pa_1
        refine (dsame_at _ _ _ _ _ _ _ _ _ _ _ _ a a l l true _ (GR.Own.rd ((F29.out.own 1 rfl).d) jd_y).2.2 (GR.Own.rd ((F29.out.own 1 rfl).s) js_y).2.2 (F29.out.rd 9 rfl) (F29.out.rd 8 rfl) rfl rfl rfl rfl (by simp [stEq])).mono ?_
        rintro e w17 ⟨rfl, hb⟩
        have F30 := Lib.hid (F29.out.below hb)
        clear F29
        replace BB := Lib.hid (bl_then BB.out hb)
        clear hb
        have pa_0 : w17.cell? ⟨w.heap.size, 0, none⟩ = some (.slice A1 a.length c1) := (F30.out.blk 12 rfl).cell 0
        have pa_1 : w17.cell? ⟨w.heap.size, 1, none⟩ = some (.slice B1 l.length d1) := (F30.out.blk 12 rfl).cell 1
        go_wp2_with fail
        clear pa_0 pa_1
        refine (bel_at2 _ _ _ _ _ _ _ _ _ _ _ _ a a l l true _ (F30.out.rd 9 rfl) (F30.out.rd 8 rfl) (F30.out.rd 9 rfl) (F30.out.rd 8 rfl) rfl rfl rfl rfl hca hca NA.out NL.out NA.out NL.out (bel_refl H1.out)).mono ?_
        rintro e w18 ⟨rfl, hb⟩
        have F31 := Lib.hid (F30.out.below hb)
        clear F30
        replace BB := Lib.hid (bl_then BB.out hb)
        clear hb
        have pa_0 : w18.cell? ⟨w.heap.size, 0, none⟩ = some (.slice A1 a.length c1) := (F31.out.blk 12 rfl).cell 0
        have pa_1 : w18.cell? ⟨w.heap.size, 1, none⟩ = some (.slice B1 l.length d1) := (F31.out.blk 12 rfl).cell 1
        go_wp2_with fail
        clear pa_0 pa_1
        refine (bel_at2 _ _ _ _ _ _ _ _ _ _ _ _ [] a [] l true _ (GR.Rd.nil _ _ _) (GR.Rd.nil _ _ _) (F31.out.rd 9 rfl) (F31.out.rd 8 rfl) rfl rfl rfl rfl (Nat.le_refl _) hca (fun d hd => by cases hd) (fun d hd => by cases hd) NA.out NL.out (bel_nil H1.out)).mono ?_
        rintro e w19 ⟨rfl, hb⟩
        have F32 := Lib.hid (F31.out.below hb)
        clear F31
        replace BB := Lib.hid (bl_then BB.out hb)
        clear hb
        have pa_0 : w19.cell? ⟨w.heap.size, 0, none⟩ = some (.slice A1 a.length c1) := (F32.out.blk 12 rfl).cell 0
        have pa_1 : w19.cell? ⟨w.heap.size, 1, none⟩ = some (.slice B1 l.length d1) := (F32.out.blk 12 rfl).cell 1
        have pb_0 : w19.cell? ⟨w.heap.size + 1, 0, none⟩ = some (.slice A2 b.length c2) := (F32.out.blk 11 rfl).cell 0
        have pb_1 : w19.cell? ⟨w.heap.size + 1, 1, none⟩ = some (.slice B2 m.length d2) := (F32.out.blk 11 rfl).cell 1
        go_wp2_with fail
        clear pa_0 pa_1 pb_0 pb_1
        refine (join_at _ _ _ _ _ _ _ _ _ _ _ _ a b l m _ (F32.out.rd 9 rfl) (F32.out.rd 8 rfl) (F32.out.rd 7 rfl) (F32.out.rd 6 rfl) rfl rfl rfl rfl hca hcb NA.out NL.out NB.out NM.out).mono ?_
        rintro e w20 ⟨v1, v2, rfl, ho, hb⟩
        have jd_ab : (joinA a l b m).length * 16 ≤ 140737488355328 := by have := (join_small a l b m).1; omega
        have js_ab : (joinL a l b m).length * 40 ≤ 140737488355328 := by have := (join_small a l b m).2; omega
        obtain ⟨Adab, ndab, kdab, rfl⟩ := own_slice ho.d jd_ab
        obtain ⟨Asab, nsab, ksab, rfl⟩ := own_slice ho.s js_ab
        obtain rfl : ndab = (joinA a l b m).length := own_n' ho.d
        obtain rfl : nsab = (joinL a l b m).length := own_n' ho.s
        have NPab := Lib.hid (join_pos NA.out NL.out NB.out NM.out)
        have F33 := Lib.hid (F32.out.below hb)
        clear F32
        replace BB := Lib.hid (bl_then BB.out hb)
        have F34 := Lib.hid (F33.out.addO (ho))
        clear F33
        clear ho hb
        have pa_0 : w20.cell? ⟨w.heap.size, 0, none⟩ = some (.slice A1 a.length c1) := (F34.out.blk 13 rfl).cell 0
        have pa_1 : w20.cell? ⟨w.heap.size, 1, none⟩ = some (.slice B1 l.length d1) := (F34.out.blk 13 rfl).cell 1
        have pb_0 : w20.cell? ⟨w.heap.size + 1, 0, none⟩ = some (.slice A2 b.length c2) := (F34.out.blk 12 rfl).cell 0
        have pb_1 : w20.cell? ⟨w.heap.size + 1, 1, none⟩ = some (.slice B2 m.length d2) := (F34.out.blk 12 rfl).cell 1
        have pa_lt : w.heap.size < w20.heap.size := (F34.out.blk 13 rfl).lt
        have pb_lt : w.heap.size + 1 < w20.heap.size := (F34.out.blk 12 rfl).lt
        go_wp2_with fail
        obtain ⟨W21, hW21⟩ : ∃ W : World, W = w20.alloc (.cells #[.slice Adab (joinA a l b m).length kdab, .slice Asab (joinL a l b m).length ksab] 25) := ⟨_, rfl⟩
        rw [← hW21]
        have LW21 : Hid (Below w20.heap.size w20 W21) := Lib.hid (by rw [hW21]; exact (by repeat (first | exact Below.refl _ _ | refine bl_drewN ?_ _ | refine bl_drew ?_ | refine bl_alloc ?_ _)))
        have XW21 : Hid (GR.Blk W21 w20.heap.size 25 #[.slice Adab (joinA a l b m).length kdab, .slice Asab (joinL a l b m).length ksab]) := Lib.hid (by rw [hW21]; exact GR.Blk.new _ _ _)
        clear hW21
        clear pa_0 pa_1 pa_lt pb_0 pb_1 pb_lt
        have F35 := Lib.hid (F34.out.below LW21.out)
        clear F34
        have F36 := Lib.hid (HS.addB F35.out (g := w20.heap.size) (t := 25) (cs := #[.slice Adab (joinA a l b m).length kdab, .slice Asab (joinL a l b m).length ksab]) (XW21.out))
        clear F35
        replace BB := Lib.hid (bl_then BB.out LW21.out)
        have EC := Lib.hid (join_comm b a m l)
        have ee := Lib.hid (show (joinE a l b m != joinE b m a l) = false by rw [EC.out.1]; simp)
        have ef := ee.out
        refine (join_at _ _ _ _ _ _ _ _ _ _ _ _ b a m l _ (F36.out.rd 9 rfl) (F36.out.rd 8 rfl) (F36.out.rd 11 rfl) (F36.out.rd 10 rfl) rfl rfl rfl rfl hcb hca NB.out NM.out NA.out NL.out).mono ?_
        rintro e w22 ⟨v1, v2, rfl, ho, hb⟩
        have jd_ba : (joinA b m a l).length * 16 ≤ 140737488355328 := by have := (join_small b m a l).1; omega
        have js_ba : (joinL b m a l).length * 40 ≤ 140737488355328 := by have := (join_small b m a l).2; omega
        obtain ⟨Adba, ndba, kdba, rfl⟩ := own_slice ho.d jd_ba
        obtain ⟨Asba, nsba, ksba, rfl⟩ := own_slice ho.s js_ba
        obtain rfl : ndba = (joinA b m a l).length := own_n' ho.d
        obtain rfl : nsba = (joinL b m a l).length := own_n' ho.s
        have NPba := Lib.hid (join_pos NB.out NM.out NA.out NL.out)
        have F37 := Lib.hid (F36.out.below hb)
        clear F36
        replace BB := Lib.hid (bl_then BB.out hb)
        have F38 := Lib.hid (F37.out.addO (ho))
        clear F37
        clear ho hb
        have pab_0 : w22.cell? ⟨w20.heap.size, 0, none⟩ = some (.slice Adab (joinA a l b m).length kdab) := (F38.out.blk 1 rfl).cell 0
        have pab_1 : w22.cell? ⟨w20.heap.size, 1, none⟩ = some (.slice Asab (joinL a l b m).length ksab) := (F38.out.blk 1 rfl).cell 1
        have pab_lt : w20.heap.size < w22.heap.size := (F38.out.blk 1 rfl).lt
        go_wp2_with fail
        obtain ⟨W23, hW23⟩ : ∃ W : World, W = w22.alloc (.cells #[.slice Adba (joinA b m a l).length kdba, .slice Asba (joinL b m a l).length ksba] 25) := ⟨_, rfl⟩
        rw [← hW23]
        have LW23 : Hid (Below w22.heap.size w22 W23) := Lib.hid (by rw [hW23]; exact (by repeat (first | exact Below.refl _ _ | refine bl_drewN ?_ _ | refine bl_drew ?_ | refine bl_alloc ?_ _)))
        have XW23 : Hid (GR.Blk W23 w22.heap.size 25 #[.slice Adba (joinA b m a l).length kdba, .slice Asba (joinL b m a l).length ksba]) := Lib.hid (by rw [hW23]; exact GR.Blk.new _ _ _)
        clear hW23
        clear pab_0 pab_1 pab_lt
        have F39 := Lib.hid (F38.out.below LW23.out)
        clear F38
        have F40 := Lib.hid (HS.addB F39.out (g := w22.heap.size) (t := 25) (cs := #[.slice Adba (joinA b m a l).length kdba, .slice Asba (joinL b m a l).length ksba]) (XW23.out))
        clear F39
        replace BB := Lib.hid (bl_then BB.out LW23.out)
        clear ef
        refine (dsame_at _ _ _ _ _ _ _ _ _ _ _ _ (joinA a l b m) (joinA b m a l) (joinL a l b m) (joinL b m a l) true _ (GR.Own.rd ((F40.out.own 3 rfl).d) jd_ab).2.2 (GR.Own.rd ((F40.out.own 3 rfl).s) js_ab).2.2 (GR.Own.rd ((F40.out.own 1 rfl).d) jd_ba).2.2 (GR.Own.rd ((F40.out.own 1 rfl).s) js_ba).2.2 rfl rfl rfl rfl (by simp only [stEq, Bool.and_eq_true, decide_eq_true_eq]; exact ⟨EC.out.2.1.symm, EC.out.2.2.symm⟩)).mono ?_
        rintro e w24 ⟨rfl, hb⟩
        have F41 := Lib.hid (F40.out.below hb)
        clear F40
        replace BB := Lib.hid (bl_then BB.out hb)
        clear hb
        go_upto_region 16 with fail
        go_cut [133] from 106 (fun s wx => s = .bool false ∧ Hid (Below w24.heap.size w24 wx))
        case first =>
          have pa_0 : w24.cell? ⟨w.heap.size, 0, none⟩ = some (.slice A1 a.length c1) := (F41.out.blk 16 rfl).cell 0
          have pa_1 : w24.cell? ⟨w.heap.size, 1, none⟩ = some (.slice B1 l.length d1) := (F41.out.blk 16 rfl).cell 1
          have pb_0 : w24.cell? ⟨w.heap.size + 1, 0, none⟩ = some (.slice A2 b.length c2) := (F41.out.blk 15 rfl).cell 0
          have pb_1 : w24.cell? ⟨w.heap.size + 1, 1, none⟩ = some (.slice B2 m.length d2) := (F41.out.blk 15 rfl).cell 1
          have pc_0 : w24.cell? ⟨w.heap.size + 1 + 1, 0, none⟩ = some (.slice A3 c.length c3) := (F41.out.blk 14 rfl).cell 0
          have pc_1 : w24.cell? ⟨w.heap.size + 1 + 1, 1, none⟩ = some (.slice B3 n.length d3) := (F41.out.blk 14 rfl).cell 1
          have opa0 := over_cell pa_0
          have opa1 := over_cell pa_1
          have opb0 := over_cell pb_0
          have opb1 := over_cell pb_1
          have opc0 := over_cell pc_0
          have opc1 := over_cell pc_1
          clear pa_0 pa_1 pb_0 pb_1 pc_0 pc_1
          rcases p1 : belS a l b m with _ | _
          · skip
            have P1 := Lib.hid p1
            clear p1
            go_wp2
            refine over_region (W := w24) (by kernel_rfl) (by kernel_rfl) (by repeat (first | exact Below.refl _ _ | refine bl_drewN ?_ _ | refine bl_drew ?_ | refine bl_alloc ?_ _)) ?_
            repeat (go_big_quiet_step (first | (refine over_of (bel_at2 _ _ _ _ _ _ _ _ _ _ _ _ a b l m false _ (GR.Rd.below (F41.out.rd 13 rfl) (Over.h _)) (GR.Rd.below (F41.out.rd 12 rfl) (Over.h _)) (GR.Rd.below (F41.out.rd 11 rfl) (Over.h _)) (GR.Rd.below (F41.out.rd 10 rfl) (Over.h _)) rfl rfl rfl rfl hca hcb NA.out NL.out NB.out NM.out P1.out))))
            refine wpQuiet_nil ?_
            intro _ hx_
            obtain ⟨x_, hx_⟩ := hx_
            subst hx_
            obtain ⟨wv, hbv⟩ := x_
            dsimp only
            go_wp2_with fail
            go_meet
            exact ⟨rfl, Lib.hid hbv⟩
          · skip
            have P1 := Lib.hid p1
            have P2 := Lib.hid (bel_anti p1)
            clear p1
            generalize hq : stEq a l b m = q at P2
            have HQ := Lib.hid hq
            clear hq
            have qq : (q != q) = false := by simp
            rcases p3 : belS b m c n with _ | _
            · skip
              have P3 := Lib.hid p3
              clear p3
              go_wp2
              refine over_region (W := w24) (by kernel_rfl) (by kernel_rfl) (by repeat (first | exact Below.refl _ _ | refine bl_drewN ?_ _ | refine bl_drew ?_ | refine bl_alloc ?_ _)) ?_
              repeat (go_big_quiet_step (first | (refine over_of (bel_at2 _ _ _ _ _ _ _ _ _ _ _ _ a b l m true _ (GR.Rd.below (F41.out.rd 13 rfl) (Over.h _)) (GR.Rd.below (F41.out.rd 12 rfl) (Over.h _)) (GR.Rd.below (F41.out.rd 11 rfl) (Over.h _)) (GR.Rd.below (F41.out.rd 10 rfl) (Over.h _)) rfl rfl rfl rfl hca hcb NA.out NL.out NB.out NM.out P1.out)) | (refine over_of (bel_at2 _ _ _ _ _ _ _ _ _ _ _ _ b a m l q _ (GR.Rd.below (F41.out.rd 11 rfl) (Over.h _)) (GR.Rd.below (F41.out.rd 10 rfl) (Over.h _)) (GR.Rd.below (F41.out.rd 13 rfl) (Over.h _)) (GR.Rd.below (F41.out.rd 12 rfl) (Over.h _)) rfl rfl rfl rfl hcb hca NB.out NM.out NA.out NL.out P2.out)) | (refine over_of (dsame_at _ _ _ _ _ _ _ _ _ _ _ _ a b l m q _ (GR.Rd.below (F41.out.rd 13 rfl) (Over.h _)) (GR.Rd.below (F41.out.rd 12 rfl) (Over.h _)) (GR.Rd.below (F41.out.rd 11 rfl) (Over.h _)) (GR.Rd.below (F41.out.rd 10 rfl) (Over.h _)) rfl rfl rfl rfl HQ.out)) | (refine over_of (bel_at2 _ _ _ _ _ _ _ _ _ _ _ _ b c m n false _ (GR.Rd.below (F41.out.rd 11 rfl) (Over.h _)) (GR.Rd.below (F41.out.rd 10 rfl) (Over.h _)) (GR.Rd.below (F41.out.rd 9 rfl) (Over.h _)) (GR.Rd.below (F41.out.rd 8 rfl) (Over.h _)) rfl rfl rfl rfl hcb hcc NB.out NM.out NC.out NN.out P3.out))))
              refine wpQuiet_nil ?_
              intro _ hx_
              obtain ⟨x_, hx_⟩ := hx_
              subst hx_
              obtain ⟨wv, hbv⟩ := x_
              dsimp only
              go_wp2_with fail
              go_meet
              exact ⟨rfl, Lib.hid hbv⟩
            · skip
              have P3 := Lib.hid p3
              clear p3
              have P4 := Lib.hid (bel_trans P1.out P3.out)
              go_wp2
              refine over_region (W := w24) (by kernel_rfl) (by kernel_rfl) (by repeat (first | exact Below.refl _ _ | refine bl_drewN ?_ _ | refine bl_drew ?_ | refine bl_alloc ?_ _)) ?_
              repeat (go_big_quiet_step (first | (refine over_of (bel_at2 _ _ _ _ _ _ _ _ _ _ _ _ a b l m true _ (GR.Rd.below (F41.out.rd 13 rfl) (Over.h _)) (GR.Rd.below (F41.out.rd 12 rfl) (Over.h _)) (GR.Rd.below (F41.out.rd 11 rfl) (Over.h _)) (GR.Rd.below (F41.out.rd 10 rfl) (Over.h _)) rfl rfl rfl rfl hca hcb NA.out NL.out NB.out NM.out P1.out)) | (refine over_of (bel_at2 _ _ _ _ _ _ _ _ _ _ _ _ b a m l q _ (GR.Rd.below (F41.out.rd 11 rfl) (Over.h _)) (GR.Rd.below (F41.out.rd 10 rfl) (Over.h _)) (GR.Rd.below (F41.out.rd 13 rfl) (Over.h _)) (GR.Rd.below (F41.out.rd 12 rfl) (Over.h _)) rfl rfl rfl rfl hcb hca NB.out NM.out NA.out NL.out P2.out)) | (refine over_of (dsame_at _ _ _ _ _ _ _ _ _ _ _ _ a b l m q _ (GR.Rd.below (F41.out.rd 13 rfl) (Over.h _)) (GR.Rd.below (F41.out.rd 12 rfl) (Over.h _)) (GR.Rd.below (F41.out.rd 11 rfl) (Over.h _)) (GR.Rd.below (F41.out.rd 10 rfl) (Over.h _)) rfl rfl rfl rfl HQ.out)) | (refine over_of (bel_at2 _ _ _ _ _ _ _ _ _ _ _ _ b c m n true _ (GR.Rd.below (F41.out.rd 11 rfl) (Over.h _)) (GR.Rd.below (F41.out.rd 10 rfl) (Over.h _)) (GR.Rd.below (F41.out.rd 9 rfl) (Over.h _)) (GR.Rd.below (F41.out.rd 8 rfl) (Over.h _)) rfl rfl rfl rfl hcb hcc NB.out NM.out NC.out NN.out P3.out)) | (refine over_of (bel_at2 _ _ _ _ _ _ _ _ _ _ _ _ a c l n true _ (GR.Rd.below (F41.out.rd 13 rfl) (Over.h _)) (GR.Rd.below (F41.out.rd 12 rfl) (Over.h _)) (GR.Rd.below (F41.out.rd 9 rfl) (Over.h _)) (GR.Rd.below (F41.out.rd 8 rfl) (Over.h _)) rfl rfl rfl rfl hca hcc NA.out NL.out NC.out NN.out P4.out))))
              refine wpQuiet_nil ?_
              intro _ hx_
              obtain ⟨x_, hx_⟩ := hx_
              subst hx_
              obtain ⟨wv, hbv⟩ := x_
              dsimp only
              go_wp2_with fail
              go_meet
              exact ⟨rfl, Lib.hid hbv⟩
        case rest =>
          obtain ⟨rfl, hb⟩ := hcut
          obtain ⟨wq, hwq⟩ : ∃ x : World, x = wc := ⟨_, rfl⟩
          subst hwq
          have F42 := Lib.hid (F41.out.below hb.out)
          clear F41
          replace BB := Lib.hid (bl_then BB.out hb.out)
          clear hb
          by_cases h4 : joinE a l b m = 0
          · rw [h4]
            have H4 := Lib.hid h4
            clear h4
            have VAB := Lib.hid (join_valid H4.out)
            go_upto_region 20 with fail
            go_cut [161] from 138 (fun s wx => s = .bool false ∧ Hid (Below wq.heap.size wq wx))
            case first =>
              have pa_0 : wq.cell? ⟨w.heap.size, 0, none⟩ = some (.slice A1 a.length c1) := (F42.out.blk 16 rfl).cell 0
              have pa_1 : wq.cell? ⟨w.heap.size, 1, none⟩ = some (.slice B1 l.length d1) := (F42.out.blk 16 rfl).cell 1
              have pb_0 : wq.cell? ⟨w.heap.size + 1, 0, none⟩ = some (.slice A2 b.length c2) := (F42.out.blk 15 rfl).cell 0
              have pb_1 : wq.cell? ⟨w.heap.size + 1, 1, none⟩ = some (.slice B2 m.length d2) := (F42.out.blk 15 rfl).cell 1
              have pab_0 : wq.cell? ⟨w20.heap.size, 0, none⟩ = some (.slice Adab (joinA a l b m).length kdab) := (F42.out.blk 2 rfl).cell 0
              have pab_1 : wq.cell? ⟨w20.heap.size, 1, none⟩ = some (.slice Asab (joinL a l b m).length ksab) := (F42.out.blk 2 rfl).cell 1
              have opa0 := over_cell pa_0
              have opa1 := over_cell pa_1
              have opb0 := over_cell pb_0
              have opb1 := over_cell pb_1
              have opab0 := over_cell pab_0
              have opab1 := over_cell pab_1
              clear pa_0 pa_1 pb_0 pb_1 pab_0 pab_1
              have PJ := Lib.hid (bel_join H4.out)
              generalize hq : belS a l b m = q at PJ
              have HQ := Lib.hid hq
              clear hq
              have qq : (q != q) = false := by simp
              go_wp2
              refine over_region (W := wq) (by kernel_rfl) (by kernel_rfl) (by repeat (first | exact Below.refl _ _ | refine bl_drewN ?_ _ | refine bl_drew ?_ | refine bl_alloc ?_ _)) ?_
              repeat (go_big_quiet_step (first | (refine over_of (valid_at _ _ _ _ _ _ (joinA a l b m) (joinL a l b m) true _ (GR.Rd.below (GR.Own.rd ((F42.out.own 3 rfl).d) jd_ab).2.2 (Over.h _)) (GR.Rd.below (GR.Own.rd ((F42.out.own 3 rfl).s) js_ab).2.2 (Over.h _)) rfl rfl NPab.out.1 NPab.out.2 VAB.out)) | (refine over_of (bel_at2 _ _ _ _ _ _ _ _ _ _ _ _ a (joinA a l b m) l (joinL a l b m) true _ (GR.Rd.below (F42.out.rd 13 rfl) (Over.h _)) (GR.Rd.below (F42.out.rd 12 rfl) (Over.h _)) (GR.Rd.below (GR.Own.rd ((F42.out.own 3 rfl).d) jd_ab).2.2 (Over.h _)) (GR.Rd.below (GR.Own.rd ((F42.out.own 3 rfl).s) js_ab).2.2 (Over.h _)) rfl rfl rfl rfl hca (GR.Own.rd ((F42.out.own 3 rfl).d) jd_ab).2.1 NA.out NL.out NPab.out.1 NPab.out.2 (blj_left H4.out))) | (refine over_of (bel_at2 _ _ _ _ _ _ _ _ _ _ _ _ b (joinA a l b m) m (joinL a l b m) true _ (GR.Rd.below (F42.out.rd 11 rfl) (Over.h _)) (GR.Rd.below (F42.out.rd 10 rfl) (Over.h _)) (GR.Rd.below (GR.Own.rd ((F42.out.own 3 rfl).d) jd_ab).2.2 (Over.h _)) (GR.Rd.below (GR.Own.rd ((F42.out.own 3 rfl).s) js_ab).2.2 (Over.h _)) rfl rfl rfl rfl hcb (GR.Own.rd ((F42.out.own 3 rfl).d) jd_ab).2.1 NB.out NM.out NPab.out.1 NPab.out.2 (blj_right H4.out))) | (refine over_of (bel_at2 _ _ _ _ _ _ _ _ _ _ _ _ a b l m q _ (GR.Rd.below (F42.out.rd 13 rfl) (Over.h _)) (GR.Rd.below (F42.out.rd 12 rfl) (Over.h _)) (GR.Rd.below (F42.out.rd 11 rfl) (Over.h _)) (GR.Rd.below (F42.out.rd 10 rfl) (Over.h _)) rfl rfl rfl rfl hca hcb NA.out NL.out NB.out NM.out HQ.out)) | (refine over_of (dsame_at _ _ _ _ _ _ _ _ _ _ _ _ (joinA a l b m) b (joinL a l b m) m q _ (GR.Rd.below (GR.Own.rd ((F42.out.own 3 rfl).d) jd_ab).2.2 (Over.h _)) (GR.Rd.below (GR.Own.rd ((F42.out.own 3 rfl).s) js_ab).2.2 (Over.h _)) (GR.Rd.below (F42.out.rd 11 rfl) (Over.h _)) (GR.Rd.below (F42.out.rd 10 rfl) (Over.h _)) rfl rfl rfl rfl PJ.out.symm))))
              refine wpQuiet_nil ?_
              intro _ hx_
              obtain ⟨x_, hx_⟩ := hx_
              subst hx_
              obtain ⟨wv, hbv⟩ := x_
              dsimp only
              go_wp2_with fail
              go_meet
              exact ⟨rfl, Lib.hid hbv⟩
            case rest =>
              obtain ⟨rfl, hb⟩ := hcut
              obtain ⟨wr2, hwr2⟩ : ∃ x : World, x = wc := ⟨_, rfl⟩
              subst hwr2
              have F43 := Lib.hid (F42.out.below hb.out)
              clear F42
              replace BB := Lib.hid (bl_then BB.out hb.out)
              clear hb
              go_upto_region 22 with fail
              go_cut [175] from 162 (fun s wx => s = .bool false ∧ Hid (Below wr2.heap.size wr2 wx))
              case first =>
                have B0 := Lib.hid (Below.refl wr2.heap.size wr2)
                have pa_0 : wr2.cell? ⟨w.heap.size, 0, none⟩ = some (.slice A1 a.length c1) := (F43.out.blk 16 rfl).cell 0
                have pa_1 : wr2.cell? ⟨w.heap.size, 1, none⟩ = some (.slice B1 l.length d1) := (F43.out.blk 16 rfl).cell 1
                have pc_0 : wr2.cell? ⟨w.heap.size + 1 + 1, 0, none⟩ = some (.slice A3 c.length c3) := (F43.out.blk 14 rfl).cell 0
                have pc_1 : wr2.cell? ⟨w.heap.size + 1 + 1, 1, none⟩ = some (.slice B3 n.length d3) := (F43.out.blk 14 rfl).cell 1
                go_wp2_with fail
                clear pa_0 pa_1 pc_0 pc_1
                rcases p1 : belS a l c n with _ | _
                · skip
                  refine (bel_at2 _ _ _ _ _ _ _ _ _ _ _ _ a c l n false _ (F43.out.rd 13 rfl) (F43.out.rd 12 rfl) (F43.out.rd 9 rfl) (F43.out.rd 8 rfl) rfl rfl rfl rfl hca hcc NA.out NL.out NC.out NN.out p1).mono ?_
                  rintro e w25 ⟨rfl, hb⟩
                  have F44 := Lib.hid (F43.out.below hb)
                  clear F43
                  replace B0 := Lib.hid (bl_then B0.out hb)
                  clear hb
                  clear p1
                  go_wp2_with fail
                  go_meet
                  exact ⟨rfl, B0⟩
                · skip
                  refine (bel_at2 _ _ _ _ _ _ _ _ _ _ _ _ a c l n true _ (F43.out.rd 13 rfl) (F43.out.rd 12 rfl) (F43.out.rd 9 rfl) (F43.out.rd 8 rfl) rfl rfl rfl rfl hca hcc NA.out NL.out NC.out NN.out p1).mono ?_
                  rintro e w26 ⟨rfl, hb⟩
                  have F45 := Lib.hid (F43.out.below hb)
                  clear F43
                  replace B0 := Lib.hid (bl_then B0.out hb)
                  clear hb
                  have P1 := Lib.hid p1
                  clear p1
                  have pb_0 : w26.cell? ⟨w.heap.size + 1, 0, none⟩ = some (.slice A2 b.length c2) := (F45.out.blk 15 rfl).cell 0
                  have pb_1 : w26.cell? ⟨w.heap.size + 1, 1, none⟩ = some (.slice B2 m.length d2) := (F45.out.blk 15 rfl).cell 1
                  have pc_0 : w26.cell? ⟨w.heap.size + 1 + 1, 0, none⟩ = some (.slice A3 c.length c3) := (F45.out.blk 14 rfl).cell 0
                  have pc_1 : w26.cell? ⟨w.heap.size + 1 + 1, 1, none⟩ = some (.slice B3 n.length d3) := (F45.out.blk 14 rfl).cell 1
                  go_wp2_with fail
                  clear pb_0 pb_1 pc_0 pc_1
                  rcases p2 : belS b m c n with _ | _
                  · skip
                    refine (bel_at2 _ _ _ _ _ _ _ _ _ _ _ _ b c m n false _ (F45.out.rd 11 rfl) (F45.out.rd 10 rfl) (F45.out.rd 9 rfl) (F45.out.rd 8 rfl) rfl rfl rfl rfl hcb hcc NB.out NM.out NC.out NN.out p2).mono ?_
                    rintro e w27 ⟨rfl, hb⟩
                    have F46 := Lib.hid (F45.out.below hb)
                    clear F45
                    replace B0 := Lib.hid (bl_then B0.out hb)
                    clear hb
                    clear p2
                    go_wp2_with fail
                    go_meet
                    exact ⟨rfl, B0⟩
                  · skip
                    refine (bel_at2 _ _ _ _ _ _ _ _ _ _ _ _ b c m n true _ (F45.out.rd 11 rfl) (F45.out.rd 10 rfl) (F45.out.rd 9 rfl) (F45.out.rd 8 rfl) rfl rfl rfl rfl hcb hcc NB.out NM.out NC.out NN.out p2).mono ?_
                    rintro e w28 ⟨rfl, hb⟩
                    have F47 := Lib.hid (F45.out.below hb)
                    clear F45
                    replace B0 := Lib.hid (bl_then B0.out hb)
                    clear hb
                    have P2 := Lib.hid p2
                    clear p2
                    have pab_0 : w28.cell? ⟨w20.heap.size, 0, none⟩ = some (.slice Adab (joinA a l b m).length kdab) := (F47.out.blk 2 rfl).cell 0
                    have pab_1 : w28.cell? ⟨w20.heap.size, 1, none⟩ = some (.slice Asab (joinL a l b m).length ksab) := (F47.out.blk 2 rfl).cell 1
                    have pc_0 : w28.cell? ⟨w.heap.size + 1 + 1, 0, none⟩ = some (.slice A3 c.length c3) := (F47.out.blk 14 rfl).cell 0
                    have pc_1 : w28.cell? ⟨w.heap.size + 1 + 1, 1, none⟩ = some (.slice B3 n.length d3) := (F47.out.blk 14 rfl).cell 1
                    go_wp2_with fail
                    clear pab_0 pab_1 pc_0 pc_1
                    refine (bel_at2 _ _ _ _ _ _ _ _ _ _ _ _ (joinA a l b m) c (joinL a l b m) n true _ (GR.Own.rd ((F47.out.own 3 rfl).d) jd_ab).2.2 (GR.Own.rd ((F47.out.own 3 rfl).s) js_ab).2.2 (F47.out.rd 9 rfl) (F47.out.rd 8 rfl) rfl rfl rfl rfl (GR.Own.rd ((F47.out.own 3 rfl).d) jd_ab).2.1 hcc NPab.out.1 NPab.out.2 NC.out NN.out (bel_lub H4.out P1.out P2.out)).mono ?_
                    rintro e w29 ⟨rfl, hb⟩
                    have F48 := Lib.hid (F47.out.below hb)
                    clear F47
                    replace B0 := Lib.hid (bl_then B0.out hb)
                    clear hb
                    go_wp2_with fail
                    go_meet
                    exact ⟨rfl, B0⟩
              case rest =>
                obtain ⟨rfl, hb⟩ := hcut
                obtain ⟨wr3, hwr3⟩ : ∃ x : World, x = wc := ⟨_, rfl⟩
                subst hwr3
                have F49 := Lib.hid (F43.out.below hb.out)
                clear F43
                replace BB := Lib.hid (bl_then BB.out hb.out)
                clear hb
                have pab_0 : wr3.cell? ⟨w20.heap.size, 0, none⟩ = some (.slice Adab (joinA a l b m).length kdab) := (F49.out.blk 2 rfl).cell 0
                have pab_1 : wr3.cell? ⟨w20.heap.size, 1, none⟩ = some (.slice Asab (joinL a l b m).length ksab) := (F49.out.blk 2 rfl).cell 1
                have pc_0 : wr3.cell? ⟨w.heap.size + 1 + 1, 0, none⟩ = some (.slice A3 c.length c3) := (F49.out.blk 14 rfl).cell 0
                have pc_1 : wr3.cell? ⟨w.heap.size + 1 + 1, 1, none⟩ = some (.slice B3 n.length d3) := (F49.out.blk 14 rfl).cell 1
                go_wp2_with fail
                clear pab_0 pab_1 pc_0 pc_1
                refine (join_at _ _ _ _ _ _ _ _ _ _ _ _ (joinA a l b m) c (joinL a l b m) n _ (GR.Own.rd ((F49.out.own 3 rfl).d) jd_ab).2.2 (GR.Own.rd ((F49.out.own 3 rfl).s) js_ab).2.2 (F49.out.rd 9 rfl) (F49.out.rd 8 rfl) rfl rfl rfl rfl (GR.Own.rd ((F49.out.own 3 rfl).d) jd_ab).2.1 hcc NPab.out.1 NPab.out.2 NC.out NN.out).mono ?_
                rintro e w30 ⟨v1, v2, rfl, ho, hb⟩
                have jd_left : (joinA (joinA a l b m) (joinL a l b m) c n).length * 16 ≤ 140737488355328 := by have := (join_small (joinA a l b m) (joinL a l b m) c n).1; omega
                have js_left : (joinL (joinA a l b m) (joinL a l b m) c n).length * 40 ≤ 140737488355328 := by have := (join_small (joinA a l b m) (joinL a l b m) c n).2; omega
                obtain ⟨Adleft, ndleft, kdleft, rfl⟩ := own_slice ho.d jd_left
                obtain ⟨Asleft, nsleft, ksleft, rfl⟩ := own_slice ho.s js_left
                obtain rfl : ndleft = (joinA (joinA a l b m) (joinL a l b m) c n).length := own_n' ho.d
                obtain rfl : nsleft = (joinL (joinA a l b m) (joinL a l b m) c n).length := own_n' ho.s
                have NPleft := Lib.hid (join_pos NPab.out.1 NPab.out.2 NC.out NN.out)
                have F50 := Lib.hid (F49.out.below hb)
                clear F49
                replace BB := Lib.hid (bl_then BB.out hb)
                have F51 := Lib.hid (F50.out.addO (ho))
                clear F50
                clear ho hb
                have pb_0 : w30.cell? ⟨w.heap.size + 1, 0, none⟩ = some (.slice A2 b.length c2) := (F51.out.blk 16 rfl).cell 0
                have pb_1 : w30.cell? ⟨w.heap.size + 1, 1, none⟩ = some (.slice B2 m.length d2) := (F51.out.blk 16 rfl).cell 1
                have pc_0 : w30.cell? ⟨w.heap.size + 1 + 1, 0, none⟩ = some (.slice A3 c.length c3) := (F51.out.blk 15 rfl).cell 0
                have pc_1 : w30.cell? ⟨w.heap.size + 1 + 1, 1, none⟩ = some (.slice B3 n.length d3) := (F51.out.blk 15 rfl).cell 1
                have pb_lt : w.heap.size + 1 < w30.heap.size := (F51.out.blk 16 rfl).lt
                have pc_lt : w.heap.size + 1 + 1 < w30.heap.size := (F51.out.blk 15 rfl).lt
                go_wp2_with fail
                obtain ⟨W31, hW31⟩ : ∃ W : World, W = w30.alloc (.cells #[.slice Adleft (joinA (joinA a l b m) (joinL a l b m) c n).length kdleft, .slice Asleft (joinL (joinA a l b m) (joinL a l b m) c n).length ksleft] 25) := ⟨_, rfl⟩
                rw [← hW31]
                have LW31 : Hid (Below w30.heap.size w30 W31) := Lib.hid (by rw [hW31]; exact (by repeat (first | exact Below.refl _ _ | refine bl_drewN ?_ _ | refine bl_drew ?_ | refine bl_alloc ?_ _)))
                have XW31 : Hid (GR.Blk W31 w30.heap.size 25 #[.slice Adleft (joinA (joinA a l b m) (joinL a l b m) c n).length kdleft, .slice Asleft (joinL (joinA a l b m) (joinL a l b m) c n).length ksleft]) := Lib.hid (by rw [hW31]; exact GR.Blk.new _ _ _)
                clear hW31
                clear pb_0 pb_1 pb_lt pc_0 pc_1 pc_lt
                have F52 := Lib.hid (F51.out.below LW31.out)
                clear F51
                have F53 := Lib.hid (HS.addB F52.out (g := w30.heap.size) (t := 25) (cs := #[.slice Adleft (joinA (joinA a l b m) (joinL a l b m) c n).length kdleft, .slice Asleft (joinL (joinA a l b m) (joinL a l b m) c n).length ksleft]) (XW31.out))
                clear F52
                replace BB := Lib.hid (bl_then BB.out LW31.out)
                refine (join_at _ _ _ _ _ _ _ _ _ _ _ _ b c m n _ (F53.out.rd 13 rfl) (F53.out.rd 12 rfl) (F53.out.rd 11 rfl) (F53.out.rd 10 rfl) rfl rfl rfl rfl hcb hcc NB.out NM.out NC.out NN.out).mono ?_
                rintro e w32 ⟨v1, v2, rfl, ho, hb⟩
                have jd_bc : (joinA b m c n).length * 16 ≤ 140737488355328 := by have := (join_small b m c n).1; omega
                have js_bc : (joinL b m c n).length * 40 ≤ 140737488355328 := by have := (join_small b m c n).2; omega
                obtain ⟨Adbc, ndbc, kdbc, rfl⟩ := own_slice ho.d jd_bc
                obtain ⟨Asbc, nsbc, ksbc, rfl⟩ := own_slice ho.s js_bc
                obtain rfl : ndbc = (joinA b m c n).length := own_n' ho.d
                obtain rfl : nsbc = (joinL b m c n).length := own_n' ho.s
                have NPbc := Lib.hid (join_pos NB.out NM.out NC.out NN.out)
                have F54 := Lib.hid (F53.out.below hb)
                clear F53
                replace BB := Lib.hid (bl_then BB.out hb)
                have F55 := Lib.hid (F54.out.addO (ho))
                clear F54
                clear ho hb
                by_cases h5 : joinE (joinA a l b m) (joinL a l b m) c n = 0
                · have f5 : ((joinE (joinA a l b m) (joinL a l b m) c n) != 0) = false := by simp [h5]
                  have H5 := Lib.hid h5
                  clear h5
                  by_cases h6 : joinE b m c n = 0
                  · have f6 : (joinE b m c n != 0) = false := by simp [h6]
                    have H6 := Lib.hid h6
                    clear h6
                    have pa_0 : w32.cell? ⟨w.heap.size, 0, none⟩ = some (.slice A1 a.length c1) := (F55.out.blk 19 rfl).cell 0
                    have pa_1 : w32.cell? ⟨w.heap.size, 1, none⟩ = some (.slice B1 l.length d1) := (F55.out.blk 19 rfl).cell 1
                    have pa_lt : w.heap.size < w32.heap.size := (F55.out.blk 19 rfl).lt
                    go_wp2_with fail
                    obtain ⟨W33, hW33⟩ : ∃ W : World, W = w32.alloc (.cells #[.slice Adbc (joinA b m c n).length kdbc, .slice Asbc (joinL b m c n).length ksbc] 25) := ⟨_, rfl⟩
                    rw [← hW33]
                    have LW33 : Hid (Below w32.heap.size w32 W33) := Lib.hid (by rw [hW33]; exact (by repeat (first | exact Below.refl _ _ | refine bl_drewN ?_ _ | refine bl_drew ?_ | refine bl_alloc ?_ _)))
                    clear hW33
                    clear pa_0 pa_1 pa_lt
                    have F56 := Lib.hid (F55.out.below LW33.out)
                    clear F55
                    replace BB := Lib.hid (bl_then BB.out LW33.out)
                    refine (join_at _ _ _ _ _ _ _ _ _ _ _ _ a (joinA b m c n) l (joinL b m c n) _ (F56.out.rd 16 rfl) (F56.out.rd 15 rfl) (GR.Own.rd ((F56.out.own 0 rfl).d) jd_bc).2.2 (GR.Own.rd ((F56.out.own 0 rfl).s) js_bc).2.2 rfl rfl rfl rfl hca (GR.Own.rd ((F56.out.own 0 rfl).d) jd_bc).2.1 NA.out NL.out NPbc.out.1 NPbc.out.2).mono ?_
                    rintro e w34 ⟨v1, v2, rfl, ho, hb⟩
                    have jd_r : (joinA a l (joinA b m c n) (joinL b m c n)).length * 16 ≤ 140737488355328 := by have := (join_small a l (joinA b m c n) (joinL b m c n)).1; omega
                    have js_r : (joinL a l (joinA b m c n) (joinL b m c n)).length * 40 ≤ 140737488355328 := by have := (join_small a l (joinA b m c n) (joinL b m c n)).2; omega
                    obtain ⟨Adr, ndr, kdr, rfl⟩ := own_slice ho.d jd_r
                    obtain ⟨Asr, nsr, ksr, rfl⟩ := own_slice ho.s js_r
                    obtain rfl : ndr = (joinA a l (joinA b m c n) (joinL b m c n)).length := own_n' ho.d
                    obtain rfl : nsr = (joinL a l (joinA b m c n) (joinL b m c n)).length := own_n' ho.s
                    have F57 := Lib.hid (F56.out.below hb)
                    clear F56
                    replace BB := Lib.hid (bl_then BB.out hb)
                    have F58 := Lib.hid (F57.out.addO (ho))
                    clear F57
                    clear ho hb f5 f6
                    have pl_0 : w34.cell? ⟨w30.heap.size, 0, none⟩ = some (.slice Adleft (joinA (joinA a l b m) (joinL a l b m) c n).length kdleft) := (F58.out.blk 2 rfl).cell 0
                    have pl_1 : w34.cell? ⟨w30.heap.size, 1, none⟩ = some (.slice Asleft (joinL (joinA a l b m) (joinL a l b m) c n).length ksleft) := (F58.out.blk 2 rfl).cell 1
                    have pl_lt : w30.heap.size < w34.heap.size := (F58.out.blk 2 rfl).lt
                    by_cases h7 : joinE a l (joinA b m c n) (joinL b m c n) = 0
                    · have f7 : ((joinE a l (joinA b m c n) (joinL b m c n)) != 0) = false := by simp [h7]
                      have H7 := Lib.hid h7
                      clear h7
                      go_wp2_with fail
                      clear pl_0 pl_1 pl_lt
                      obtain ⟨W35, hW35⟩ : ∃ W : World, W = w34.alloc (.cells #[.slice Adr (joinA a l (joinA b m c n) (joinL b m c n)).length kdr, .slice Asr (joinL a l (joinA b m c n) (joinL b m c n)).length ksr] 25) := ⟨_, rfl⟩
                      rw [← hW35]
                      have LW35 : Hid (Below w34.heap.size w34 W35) := Lib.hid (by rw [hW35]; exact (by repeat (first | exact Below.refl _ _ | refine bl_drewN ?_ _ | refine bl_drew ?_ | refine bl_alloc ?_ _)))
                      clear hW35
                      have F59 := Lib.hid (F58.out.below LW35.out)
                      clear F58
                      replace BB := Lib.hid (bl_then BB.out LW35.out)
                      refine (dsame_at _ _ _ _ _ _ _ _ _ _ _ _ (joinA (joinA a l b m) (joinL a l b m) c n) (joinA a l (joinA b m c n) (joinL b m c n)) (joinL (joinA a l b m) (joinL a l b m) c n) (joinL a l (joinA b m c n) (joinL b m c n)) true _ (GR.Own.rd ((F59.out.own 3 rfl).d) jd_left).2.2 (GR.Own.rd ((F59.out.own 3 rfl).s) js_left).2.2 (GR.Own.rd ((F59.out.own 0 rfl).d) jd_r).2.2 (GR.Own.rd ((F59.out.own 0 rfl).s) js_r).2.2 rfl rfl rfl rfl (join_assoc H4.out H5.out H6.out H7.out)).mono ?_
                      rintro e w36 ⟨rfl, hb⟩
                      have F60 := Lib.hid (F59.out.below hb)
                      clear F59
                      replace BB := Lib.hid (bl_then BB.out hb)
                      clear hb
                      go_wp2
                      go_ret
                      exact ⟨rfl, bl_then LW.out (by repeat (first | exact BB.out | refine bl_drewN ?_ _ | refine bl_drew ?_ | refine bl_alloc ?_ _))⟩
                    · have f7 : ((joinE a l (joinA b m c n) (joinL b m c n)) != 0) = true := by simpa using h7
                      go_wp2
                      go_ret
                      exact ⟨rfl, bl_then LW.out (by repeat (first | exact BB.out | refine bl_drewN ?_ _ | refine bl_drew ?_ | refine bl_alloc ?_ _))⟩
                  · have f6 : (joinE b m c n != 0) = true := by simpa using h6
                    go_wp2
                    go_ret
                    exact ⟨rfl, bl_then LW.out (by repeat (first | exact BB.out | refine bl_drewN ?_ _ | refine bl_drew ?_ | refine bl_alloc ?_ _))⟩
                · have f5 : ((joinE (joinA a l b m) (joinL a l b m) c n) != 0) = true := by simpa using h5
                  go_wp2
                  go_ret
                  exact ⟨rfl, bl_then LW.out (by repeat (first | exact BB.out | refine bl_drewN ?_ _ | refine bl_drew ?_ | refine bl_alloc ?_ _))⟩
          · have HE := join_two H1.out H2.out h4
            rw [HE]
            clear HE h4
            go_wp2
            go_ret
            exact ⟨rfl, bl_then LW.out (by repeat (first | exact BB.out | refine bl_drewN ?_ _ | refine bl_drew ?_ | refine bl_alloc ?_ _))⟩
end Go.Proofs.Ytlmnmlehnigfdaa
