/- DERIVED. The program's Below. -/
import Derived.Test.YtlmnmlehnigfdaaDvHS
import Derived.Test.YtlmnmlehnigfdaaDvLat
import Derived.Test.YtlmnmlehnigfdaaDvSearch
namespace Go.Proofs.Ytlmnmlehnigfdaa
open Go.RowKit Go.Proofs.YtlmnmlehnigfdaaW.PrintWords
set_option linter.unusedVariables false
set_option linter.unusedSimpArgs false
attribute [local go_sem high] eqS

/-- What Below asks of a sibling of the state above. -/
def belP (a : List Dot) (l : List Sib) (y : Sib) : Bool := !cov a y.d || l.any fun x => decide (x.d = y.d) && decide (lesS x y = y)
theorem belS_def (a b : List Dot) (l m : List Sib) : belS a l b m = (staB a l && staB b m && vbel a b && m.all (belP a l)) := rfl
theorem belS_no {a b : List Dot} {l m : List Sib} (h : staB a l = false ∨ staB b m = false ∨ vbel a b = false) : belS a l b m = false := by
  rw [belS_def]
  rcases h with h | h | h <;> simp [h]
theorem belS_yes {a b : List Dot} {l m : List Sib} (h1 : staB a l = true) (h2 : staB b m = true) (h3 : vbel a b = true) : belS a l b m = m.all (belP a l) := by rw [belS_def, h1, h2, h3]; rfl
theorem all_take {α : Type} {p : α → Bool} {l : List α} {k : Nat} (h : k < l.length) : (l.take (k + 1)).all p = ((l.take k).all p && p l[k]) := by
  rw [List.take_succ_eq_append_getElem h, List.all_append]; simp
theorem all_bad {α : Type} {p : α → Bool} {l : List α} {k : Nat} (h : k < l.length) (hp : p l[k] = false) : l.all p = false := by
  rw [Bool.eq_false_iff]
  intro ha
  have := List.all_eq_true.1 ha _ (List.getElem_mem h)
  rw [hp] at this; cases this
/-- A search tells whether a dot is there. -/
theorem finds_none {l : List Sib} {d : Dot} {i : Nat} (hr : SRis l) (h1 : ∀ t (ht : t < l.length), t < i → ltD l[t].d d = true) (h2 : ∀ t (ht : t < l.length), i ≤ t → ltD l[t].d d = false) (hn : ¬ ∃ h : i < l.length, l[i].d = d) : ∀ x ∈ l, x.d ≠ d := fun x hx e => by
  obtain ⟨t, ht, rfl⟩ := List.getElem_of_mem hx
  rcases Nat.lt_trichotomy t i with h | h | h
  · have := h1 t ht h; rw [e, ltD_irrefl] at this; cases this
  · subst h; exact hn ⟨ht, e⟩
  · have k1 := sris_lt hr (show i < l.length by omega) ht h
    rw [e] at k1
    rw [h2 i (by omega) (Nat.le_refl _)] at k1; cases k1
theorem bel_at {a : List Dot} {l : List Sib} {y : Sib} (hr : SRis l) (hc : cov a y.d = true) {i : Nat} (hi : i < l.length) (hd : l[i].d = y.d) : belP a l y = decide (lesS l[i] y = y) := by
  unfold belP
  rw [hc, Bool.eq_iff_iff]
  simp only [Bool.not_true, Bool.false_or, List.any_eq_true, Bool.and_eq_true, decide_eq_true_eq]
  constructor
  · rintro ⟨x, hx, hxd, h⟩
    have e1 := says_there (a := a) hr hx
    have e2 := says_there (a := a) hr (List.getElem_mem hi)
    rw [hxd, ← hd, e2] at e1
    injection e1 with _ e1
    rw [e1]; exact h
  · intro h; exact ⟨_, List.getElem_mem hi, hd, h⟩
theorem bel_none {a : List Dot} {l : List Sib} {y : Sib} (hc : cov a y.d = true) (hn : ∀ x ∈ l, x.d ≠ y.d) : belP a l y = false := by
  unfold belP
  rw [hc, Bool.eq_false_iff]
  simp only [Bool.not_true, Bool.false_or, Ne, List.any_eq_true, Bool.and_eq_true, decide_eq_true_eq]
  rintro ⟨x, hx, hxd, _⟩
  exact hn x hx hxd
theorem bel_free {a : List Dot} {l : List Sib} {y : Sib} (hc : cov a y.d = false) : belP a l y = true := by unfold belP; rw [hc]; rfl

set_option maxRecDepth 100000 in
set_option maxHeartbeats 12800000 in
theorem dvvBelow_any (A B C D : Option Addr) (c1 c2 c3 c4 : Nat) (a b : List Dot) (l m : List Sib) (w : World) (ha : GR.Rd dotK w A a) (hl : GR.Rd sibK w B l) (hb : GR.Rd dotK w C b) (hm : GR.Rd sibK w D m) (hca : a.length ≤ c1) (hcb : b.length ≤ c3)
    (na : ∀ d ∈ a, 0 ≤ d.n) (nl : ∀ x ∈ l, 0 ≤ x.d.n) (nb : ∀ d ∈ b, 0 ≤ d.n) (nm : ∀ x ∈ m, 0 ≤ x.d.n) :
    Calls Try.prog 31 #[.agg #[.slice A a.length c1, .slice B l.length c2], .agg #[.slice C b.length c3, .slice D m.length c4]] w fun e w' => e = .returned (.bool (belS a l b m)) ∧ Below w.heap.size w w' := by
  have hml : l.length * 40 ≤ 140737488355328 := hl.max
  have hmm : m.length * 40 ≤ 140737488355328 := hm.max
  have HA := Lib.hid ha
  have HL := Lib.hid hl
  have HB := Lib.hid hb
  have HM := Lib.hid hm
  have NA := Lib.hid na
  have NL := Lib.hid nl
  have NB := Lib.hid nb
  have NM := Lib.hid nm
  clear ha hl hb hm na nl nb nm
  go_enter Try.func31, Try.ntmps31
  go_wp2_with fail
  obtain ⟨W1, hW1⟩ : ∃ W1 : World, W1 = (w.alloc (.cells #[.slice A a.length c1, .slice B l.length c2] 25)).alloc (.cells #[.slice C b.length c3, .slice D m.length c4] 25) := ⟨_, rfl⟩
  rw [← hW1]
  have LW : Hid (Below w.heap.size w W1) := Lib.hid (by rw [hW1]; exact (by repeat (first | exact Below.refl _ _ | refine bl_drewN ?_ _ | refine bl_drew ?_ | refine bl_alloc ?_ _)))
  have XA : Hid (GR.Blk W1 w.heap.size 25 #[.slice A a.length c1, .slice B l.length c2]) := Lib.hid (by rw [hW1]; exact (GR.Blk.new _ _ _).alloc _)
  have XB : Hid (GR.Blk W1 (w.heap.size + 1) 25 #[.slice C b.length c3, .slice D m.length c4]) := Lib.hid (by rw [hW1]; exact new_at _ _ _ (by simp))
  clear hW1
  have F1 := Lib.hid (HS.nil W1)
  have F2 := Lib.hid (HS.addB F1.out (g := w.heap.size) (t := 25) (cs := #[.slice A a.length c1, .slice B l.length c2]) (XA.out))
  clear F1
  have F3 := Lib.hid (HS.addB F2.out (g := w.heap.size + 1) (t := 25) (cs := #[.slice C b.length c3, .slice D m.length c4]) (XB.out))
  clear F2
  have F4 := Lib.hid (F3.out.addR (HA.out.below LW.out))
  clear F3
  have F5 := Lib.hid (F4.out.addR (HL.out.below LW.out))
  clear F4
  have F6 := Lib.hid (F5.out.addR (HB.out.below LW.out))
  clear F5
  have F7 := Lib.hid (F6.out.addR (HM.out.below LW.out))
  clear F6
  clear XA XB
  have BB := Lib.hid (Below.refl W1.heap.size W1)
  have pa_0 : W1.cell? ⟨w.heap.size, 0, none⟩ = some (.slice A a.length c1) := (F7.out.blk 5 rfl).cell 0
  have pa_1 : W1.cell? ⟨w.heap.size, 1, none⟩ = some (.slice B l.length c2) := (F7.out.blk 5 rfl).cell 1
  go_wp2_with fail
  clear pa_0 pa_1
  by_cases h1 : staB a l = false
  · skip
    refine (dvvValid_any A B c1 c2 a l _ (F7.out.rd 3 rfl) (F7.out.rd 2 rfl) NA.out NL.out).mono ?_
    rintro e w2 ⟨rfl, hb⟩
    have F8 := Lib.hid (F7.out.below hb)
    clear F7
    replace BB := Lib.hid (bl_then BB.out hb)
    clear hb
    rw [h1]
    have HV := Lib.hid (belS_no (a := a) (b := b) (l := l) (m := m) (.inl h1))
    go_wp2
    go_ret
    exact ⟨ret_bool HV.out.symm, bl_then LW.out (by repeat (first | exact BB.out | refine bl_drewN ?_ _ | refine bl_drew ?_ | refine bl_alloc ?_ _))⟩
  · replace h1 : staB a l = true := by simpa using h1
    refine (dvvValid_any A B c1 c2 a l _ (F7.out.rd 3 rfl) (F7.out.rd 2 rfl) NA.out NL.out).mono ?_
    rintro e w2 ⟨rfl, hb⟩
    have F9 := Lib.hid (F7.out.below hb)
    clear F7
    replace BB := Lib.hid (bl_then BB.out hb)
    clear hb
    rw [h1]
    have pb_0 : w2.cell? ⟨w.heap.size + 1, 0, none⟩ = some (.slice C b.length c3) := (F9.out.blk 4 rfl).cell 0
    have pb_1 : w2.cell? ⟨w.heap.size + 1, 1, none⟩ = some (.slice D m.length c4) := (F9.out.blk 4 rfl).cell 1
    have H1 := Lib.hid h1
    clear h1
    go_wp2_with fail
    clear pb_0 pb_1
    by_cases h2 : staB b m = false
    · skip
      refine (dvvValid_any C D c3 c4 b m _ (F9.out.rd 1 rfl) (F9.out.rd 0 rfl) NB.out NM.out).mono ?_
      rintro e w3 ⟨rfl, hb⟩
      have F10 := Lib.hid (F9.out.below hb)
      clear F9
      replace BB := Lib.hid (bl_then BB.out hb)
      clear hb
      rw [h2]
      have HV := Lib.hid (belS_no (a := a) (b := b) (l := l) (m := m) (.inr (.inl h2)))
      go_wp2
      go_ret
      exact ⟨ret_bool HV.out.symm, bl_then LW.out (by repeat (first | exact BB.out | refine bl_drewN ?_ _ | refine bl_drew ?_ | refine bl_alloc ?_ _))⟩
    · replace h2 : staB b m = true := by simpa using h2
      refine (dvvValid_any C D c3 c4 b m _ (F9.out.rd 1 rfl) (F9.out.rd 0 rfl) NB.out NM.out).mono ?_
      rintro e w3 ⟨rfl, hb⟩
      have F11 := Lib.hid (F9.out.below hb)
      clear F9
      replace BB := Lib.hid (bl_then BB.out hb)
      clear hb
      rw [h2]
      have pa_0 : w3.cell? ⟨w.heap.size, 0, none⟩ = some (.slice A a.length c1) := (F11.out.blk 5 rfl).cell 0
      have pa_1 : w3.cell? ⟨w.heap.size, 1, none⟩ = some (.slice B l.length c2) := (F11.out.blk 5 rfl).cell 1
      have pb_0 : w3.cell? ⟨w.heap.size + 1, 0, none⟩ = some (.slice C b.length c3) := (F11.out.blk 4 rfl).cell 0
      have pb_1 : w3.cell? ⟨w.heap.size + 1, 1, none⟩ = some (.slice D m.length c4) := (F11.out.blk 4 rfl).cell 1
      have H2 := Lib.hid h2
      clear h2
      go_wp2_with fail
      clear pa_0 pa_1 pb_0 pb_1
      by_cases h3 : vbel a b = false
      · skip
        refine (below_any A C c1 c3 a b _ (F11.out.rd 3 rfl) (F11.out.rd 1 rfl) hca hcb NA.out NB.out).mono ?_
        rintro e w4 ⟨rfl, hb⟩
        have F12 := Lib.hid (F11.out.below hb)
        clear F11
        replace BB := Lib.hid (bl_then BB.out hb)
        clear hb
        rw [h3]
        have HV := Lib.hid (belS_no (a := a) (b := b) (l := l) (m := m) (.inr (.inr h3)))
        go_wp2
        go_ret
        exact ⟨ret_bool HV.out.symm, bl_then LW.out (by repeat (first | exact BB.out | refine bl_drewN ?_ _ | refine bl_drew ?_ | refine bl_alloc ?_ _))⟩
      · replace h3 : vbel a b = true := by simpa using h3
        refine (below_any A C c1 c3 a b _ (F11.out.rd 3 rfl) (F11.out.rd 1 rfl) hca hcb NA.out NB.out).mono ?_
        rintro e w4 ⟨rfl, hb⟩
        have F13 := Lib.hid (F11.out.below hb)
        clear F11
        replace BB := Lib.hid (bl_then BB.out hb)
        clear hb
        rw [h3]
        have pb_0 : w4.cell? ⟨w.heap.size + 1, 0, none⟩ = some (.slice C b.length c3) := (F13.out.blk 4 rfl).cell 0
        have pb_1 : w4.cell? ⟨w.heap.size + 1, 1, none⟩ = some (.slice D m.length c4) := (F13.out.blk 4 rfl).cell 1
        have HAL := Lib.hid (belS_yes H1.out H2.out h3)
        clear h3
        go_wp2
        clear pb_0 pb_1
        go_loopw [28] (fun i w' => ∃ k : Nat, k ≤ m.length ∧ i = .int .i64 k ∧ Hid ((m.take k).all (belP a l) = true) ∧ Hid (Below w4.heap.size w4 w')) (fun i _ => m.length - (intOf i).toNat)
        case atStart => exact ⟨0, Nat.zero_le _, rfl, Lib.hid (by simp), Lib.hid (by repeat (first | exact Below.refl _ _ | refine bl_drewN ?_ _ | refine bl_drew ?_ | refine bl_alloc ?_ _))⟩
        case round =>
          obtain ⟨k, hk, rfl, hall, hw⟩ := hrel
          have F14 := Lib.hid (F13.out.below hw.out)
          clear F13
          replace BB := Lib.hid (bl_then BB.out hw.out)
          by_cases hlt : k < m.length
          · have i0 : (0 : Int) ≤ (k : Int) := by omega
            have i1 : (k : Int) < (m.length : Int) := by omega
            obtain ⟨ad, eB, _, x0, x1, x2, x3⟩ := sib_at (F14.out.rd 0 rfl) k hlt
            subst eB
            have hyn : 0 ≤ m[k].d.n := NM.out _ (List.getElem_mem hlt)
            have pa_0 : wr.cell? ⟨w.heap.size, 0, none⟩ = some (.slice A a.length c1) := (F14.out.blk 5 rfl).cell 0
            have pa_1 : wr.cell? ⟨w.heap.size, 1, none⟩ = some (.slice B l.length c2) := (F14.out.blk 5 rfl).cell 1
            have pa_lt : w.heap.size < wr.heap.size := (F14.out.blk 5 rfl).lt
            go_wp2_with fail
            obtain ⟨W5, hW5⟩ : ∃ W : World, W = wr.alloc (.cells #[.int .u32 m[k].d.a, .int .u64 m[k].d.n, .bool m[k].gone, .string m[k].v] 56) := ⟨_, rfl⟩
            rw [← hW5]
            have L5 : Hid (Below wr.heap.size wr W5) := Lib.hid (by rw [hW5]; exact (by repeat (first | exact Below.refl _ _ | refine bl_drewN ?_ _ | refine bl_drew ?_ | refine bl_alloc ?_ _)))
            have X5 : Hid (GR.Blk W5 wr.heap.size 56 #[.int .u32 m[k].d.a, .int .u64 m[k].d.n, .bool m[k].gone, .string m[k].v]) := Lib.hid (by rw [hW5]; exact GR.Blk.new _ _ _)
            clear hW5 x0 x1 x2 x3
            clear pa_0 pa_1 pa_lt
            have F15 := Lib.hid (F14.out.below L5.out)
            clear F14
            have F16 := Lib.hid (HS.addB F15.out (g := wr.heap.size) (t := 56) (cs := #[.int .u32 m[k].d.a, .int .u64 m[k].d.n, .bool m[k].gone, .string m[k].v]) (X5.out))
            clear F15
            replace BB := Lib.hid (bl_then BB.out L5.out)
            by_cases hcv : cov a m[k].d = false
            · skip
              refine (covers_is A c1 a m[k].d false hcv _ (F16.out.rd 4 rfl) NA.out hyn).mono ?_
              rintro e w6 ⟨rfl, hb6⟩
              have HA2 := Lib.hid (show (m.take (k + 1)).all (belP a l) = true by rw [all_take hlt, hall.out, bel_free hcv]; rfl)
              have BW := Lib.hid (bl_then (bl_then hw.out L5.out) hb6)
              clear hb6 hcv
              go_wp2
              go_roundw
              case rel => exact ⟨k + 1, by omega, by go_num, HA2, BW⟩
              case measure => simp [intOf]; omega
            · replace hcv : cov a m[k].d = true := by simpa using hcv
              refine (covers_is A c1 a m[k].d true hcv _ (F16.out.rd 4 rfl) NA.out hyn).mono ?_
              rintro e w6 ⟨rfl, hb6⟩
              have F17 := Lib.hid (F16.out.below hb6)
              clear F16
              have BW6 := Lib.hid (bl_then (bl_then hw.out L5.out) hb6)
              replace BB := Lib.hid (bl_then BB.out hb6)
              have HC := Lib.hid hcv
              clear hb6 hcv
              have pa_0 : w6.cell? ⟨w.heap.size, 0, none⟩ = some (.slice A a.length c1) := (F17.out.blk 6 rfl).cell 0
              have pa_1 : w6.cell? ⟨w.heap.size, 1, none⟩ = some (.slice B l.length c2) := (F17.out.blk 6 rfl).cell 1
              have py_0 : w6.cell? ⟨wr.heap.size, 0, none⟩ = some (.int .u32 m[k].d.a) := (F17.out.blk 0 rfl).cell 0
              have py_1 : w6.cell? ⟨wr.heap.size, 1, none⟩ = some (.int .u64 m[k].d.n) := (F17.out.blk 0 rfl).cell 1
              have py_2 : w6.cell? ⟨wr.heap.size, 2, none⟩ = some (.bool m[k].gone) := (F17.out.blk 0 rfl).cell 2
              have py_3 : w6.cell? ⟨wr.heap.size, 3, none⟩ = some (.string m[k].v) := (F17.out.blk 0 rfl).cell 3
              go_wp2_with fail
              clear pa_0 pa_1 py_0 py_1 py_2 py_3
              refine (searchB_any B c2 l m[k].d _ (F17.out.rd 3 rfl)).mono ?_
              rintro e w7 ⟨⟨i, ok, rfl, hi, hf, hok⟩, hb7⟩
              have F18 := Lib.hid (F17.out.below hb7)
              clear F17
              have BW7 := Lib.hid (bl_then BW6.out hb7)
              replace BB := Lib.hid (bl_then BB.out hb7)
              clear hb7
              have hr := sris_of H1.out
              obtain ⟨hf1, hf2⟩ := hf hr
              have pa_0 : w7.cell? ⟨w.heap.size, 0, none⟩ = some (.slice A a.length c1) := (F18.out.blk 6 rfl).cell 0
              have pa_1 : w7.cell? ⟨w.heap.size, 1, none⟩ = some (.slice B l.length c2) := (F18.out.blk 6 rfl).cell 1
              have py_0 : w7.cell? ⟨wr.heap.size, 0, none⟩ = some (.int .u32 m[k].d.a) := (F18.out.blk 0 rfl).cell 0
              have py_1 : w7.cell? ⟨wr.heap.size, 1, none⟩ = some (.int .u64 m[k].d.n) := (F18.out.blk 0 rfl).cell 1
              have py_2 : w7.cell? ⟨wr.heap.size, 2, none⟩ = some (.bool m[k].gone) := (F18.out.blk 0 rfl).cell 2
              have py_3 : w7.cell? ⟨wr.heap.size, 3, none⟩ = some (.string m[k].v) := (F18.out.blk 0 rfl).cell 3
              rcases ok with _ | _
              · have HV := Lib.hid (show belS a l b m = false by
                  rw [HAL.out]
                  exact all_bad hlt (bel_none HC.out (finds_none hr hf1 hf2 (fun hx => by have := hok.2 hx; cases this))))
                clear hf1 hf2 hok hr hf
                have opa0 := over_cell pa_0
                have opa1 := over_cell pa_1
                have opy0 := over_cell py_0
                have opy1 := over_cell py_1
                have opy2 := over_cell py_2
                have opy3 := over_cell py_3
                clear pa_0 pa_1 py_0 py_1 py_2 py_3
                go_wp2
                refine over_region (W := w7) (by kernel_rfl) (by kernel_rfl) (by repeat (first | exact Below.refl _ _ | refine bl_drewN ?_ _ | refine bl_drew ?_ | refine bl_alloc ?_ _)) ?_
                repeat (go_big_quiet_step (fail))
                refine wpQuiet_nil ?_
                intro _ hx_
                obtain ⟨x_, hx_⟩ := hx_
                subst hx_
                obtain ⟨w8, hb8⟩ := x_
                dsimp only
                go_wp2
                go_ret
                exact ⟨ret_bool HV.out.symm, bl_then LW.out (bl_then BB.out hb8)⟩
              · obtain ⟨hil, hid⟩ := hok.1 rfl
                have j0 : (0 : Int) ≤ (i : Int) := by omega
                have j1 : (i : Int) < (l.length : Int) := by omega
                have HP := Lib.hid (bel_at hr HC.out hil hid)
                obtain ⟨bd, eB, _, z0, z1, z2, z3⟩ := sib_at (F18.out.rd 3 rfl) i hil
                subst eB
                clear hf1 hf2 hok hr hf hid
                have opa0 := over_cell pa_0
                have opa1 := over_cell pa_1
                have opy0 := over_cell py_0
                have opy1 := over_cell py_1
                have opy2 := over_cell py_2
                have opy3 := over_cell py_3
                clear pa_0 pa_1 py_0 py_1 py_2 py_3
                have oz0 := over_cell z0
                have oz1 := over_cell z1
                have oz2 := over_cell z2
                have oz3 := over_cell z3
                clear z0 z1 z2 z3
                by_cases hq : lesS l[i] m[k] = m[k]
                · have q0 : sEq (lesS l[i] m[k]).d.a (lesS l[i] m[k]).d.n (lesS l[i] m[k]).gone (lesS l[i] m[k]).v m[k].d.a m[k].d.n m[k].gone m[k].v = true := by
                    exact sEq_iff.2 hq
                  have HQ := Lib.hid hq
                  clear hq
                  go_wp2
                  refine over_region (W := w7) (by kernel_rfl) (by kernel_rfl) (by repeat (first | exact Below.refl _ _ | refine bl_drewN ?_ _ | refine bl_drew ?_ | refine bl_alloc ?_ _)) ?_
                  repeat (go_big_quiet_step (refine over_of (lesser_x l[i] m[k] _)))
                  refine wpQuiet_nil ?_
                  intro _ hx_
                  obtain ⟨x_, hx_⟩ := hx_
                  subst hx_
                  obtain ⟨w8, hb8⟩ := x_
                  dsimp only
                  have HA2 := Lib.hid (show (m.take (k + 1)).all (belP a l) = true by rw [all_take hlt, hall.out, HP.out, decide_eq_true HQ.out]; rfl)
                  have BW := Lib.hid (bl_then BW7.out hb8)
                  clear hb8
                  go_wp2
                  go_roundw
                  case rel => exact ⟨k + 1, by omega, by go_num, HA2, BW⟩
                  case measure => simp [intOf]; omega
                · have q0 : sEq (lesS l[i] m[k]).d.a (lesS l[i] m[k]).d.n (lesS l[i] m[k]).gone (lesS l[i] m[k]).v m[k].d.a m[k].d.n m[k].gone m[k].v = false := by
                    rw [Bool.eq_false_iff]; exact fun h => hq (sEq_iff.1 h)
                  have HQ := Lib.hid hq
                  clear hq
                  go_wp2
                  refine over_region (W := w7) (by kernel_rfl) (by kernel_rfl) (by repeat (first | exact Below.refl _ _ | refine bl_drewN ?_ _ | refine bl_drew ?_ | refine bl_alloc ?_ _)) ?_
                  repeat (go_big_quiet_step (refine over_of (lesser_x l[i] m[k] _)))
                  refine wpQuiet_nil ?_
                  intro _ hx_
                  obtain ⟨x_, hx_⟩ := hx_
                  subst hx_
                  obtain ⟨w8, hb8⟩ := x_
                  dsimp only
                  have HV := Lib.hid (show belS a l b m = false by rw [HAL.out]; exact all_bad hlt (by rw [HP.out, decide_eq_false HQ.out]))
                  go_wp2
                  go_ret
                  exact ⟨ret_bool HV.out.symm, bl_then LW.out (bl_then BB.out hb8)⟩
          · obtain rfl : k = m.length := by omega
            have HV := Lib.hid (show belS a l b m = true by rw [HAL.out]; have := hall.out; rwa [List.take_length] at this)
            go_wp2
            go_ret
            exact ⟨ret_bool HV.out.symm, bl_then LW.out BB.out⟩
end Go.Proofs.Ytlmnmlehnigfdaa
