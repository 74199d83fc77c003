/- DERIVED. The document's Below. -/
import Derived.Test.YtlmnmlehnigfdaaDvRefJoin
import Derived.Test.YtlmnmlehnigfdaaDvRefValid
import Derived.Test.YtlmnmlehnigfdaaDvBelow
import Derived.Test.YtlmnmlehnigfdaaDvLat2
import Derived.WalkMore
import Derived.Deep.Cut
import Derived.Deep.CutRange
namespace Go.Proofs.Ytlmnmlehnigfdaa
open Go.RowKit
set_option linter.unusedVariables false
set_option linter.unusedSimpArgs false

/-- Below, asked of the dots of both. -/
theorem belD {a b : List Dot} {l m : List Sib} (h1 : staB a l = true) (h2 : staB b m = true) (h3 : vbel a b = true) (h : ∀ d ∈ mdots l m, leP (says a l d) (says b m d)) : belS a l b m = true := by
  refine belS_iff.2 ⟨h1, h2, fun d => ?_⟩
  by_cases hd : d ∈ mdots l m
  · exact h d hd
  · rw [mdots_mem] at hd
    have n1 : ∀ x ∈ l, x.d ≠ d := fun x hx e => hd (.inl ⟨x, hx, e⟩)
    have n2 : ∀ x ∈ m, x.d ≠ d := fun x hx e => hd (.inr ⟨x, hx, e⟩)
    have hv := (vbel_iff (sta_ok h1).1 (sta_ok h2).1).1 h3 d
    rw [says_not n1, says_not n2]
    rcases c1 : cov a d with _ | _
    · rcases c2 : cov b d with _ | _
      · exact leP_refl _
      · exact .inl (by simp)
    · rw [hv c1]; exact leP_refl _
theorem belD_no {a b : List Dot} {l m : List Sib} {d : Dot} (h : ¬ leP (says a l d) (says b m d)) : belS a l b m = false := by
  rw [Bool.eq_false_iff]
  exact fun e => h ((belS_iff.1 e).2.2 d)
theorem refBelow_bl (A C : Option Addr) (c d : Nat) (a b : List Dot) (w : World) (ha : GR.Rd dotK w A a) (hb : GR.Rd dotK w C b) (na : ∀ d ∈ a, 0 ≤ d.n) (nb : ∀ d ∈ b, 0 ≤ d.n) :
    Calls Try.prog 76 #[.slice A a.length c, .slice C b.length d] w fun e w' => e = .returned (.bool (vbel a b)) ∧ Below w.heap.size w w' := (refBelow_any A C c d a b w ha hb na nb).mono fun _ _ ⟨h, hd⟩ => ⟨h, hd.below _⟩
theorem all_snoc {P : List Dot} {p : Dot → Prop} {i : Nat} (hi : i < P.length) (h : ∀ d ∈ P.take i, p d) (k : p P[i]) : ∀ d ∈ P.take (i + 1), p d := by
  rw [List.take_succ_eq_append_getElem hi]
  intro d hd
  rcases List.mem_append.1 hd with hd | hd
  · exact h d hd
  · rw [List.mem_singleton.1 hd]; exact k

set_option maxRecDepth 100000 in
set_option maxHeartbeats 12800000 in
theorem refSBelow_any (A B C D : Option Addr) (c1 c2 c3 c4 : Nat) (a b : List Dot) (l m : List Sib) (w : World) (ha : GR.Rd dotK w A a) (hl : GR.Rd sibK w B l) (hb : GR.Rd dotK w C b) (hm : GR.Rd sibK w D m)
    (na : ∀ d ∈ a, 0 ≤ d.n) (nl : ∀ x ∈ l, 0 ≤ x.d.n) (nb : ∀ d ∈ b, 0 ≤ d.n) (nm : ∀ x ∈ m, 0 ≤ x.d.n) :
    Calls Try.prog 32 #[.agg #[.slice A a.length c1, .slice B l.length c2], .agg #[.slice C b.length c3, .slice D m.length c4]] w fun e w' => e = .returned (.bool (belS a l b m)) ∧ Below w.heap.size w w' := by
  have HA := Lib.hid ha
  have HL := Lib.hid hl
  have HB := Lib.hid hb
  have HM := Lib.hid hm
  have NA := Lib.hid na
  have NL := Lib.hid nl
  have NB := Lib.hid nb
  have NM := Lib.hid nm
  clear ha hl hb hm na nl nb nm
  go_enter Try.func32, Try.ntmps32
  go_wp2_with fail
  obtain ⟨W1, hW1⟩ : ∃ W1 : World, W1 = (w.alloc (.cells #[.slice A a.length c1, .slice B l.length c2] 25)).alloc (.cells #[.slice C b.length c3, .slice D m.length c4] 25) := ⟨_, rfl⟩
  rw [← hW1]
  have LW : Hid (Below w.heap.size w W1) := Lib.hid (by rw [hW1]; exact (by repeat (first | exact Below.refl _ _ | refine bl_drewN ?_ _ | refine bl_drew ?_ | refine bl_alloc ?_ _)))
  have XA : Hid (GR.Blk W1 w.heap.size 25 #[.slice A a.length c1, .slice B l.length c2]) := Lib.hid (by rw [hW1]; exact (GR.Blk.new _ _ _).alloc _)
  have XB : Hid (GR.Blk W1 (w.heap.size + 1) 25 #[.slice C b.length c3, .slice D m.length c4]) := Lib.hid (by rw [hW1]; exact new_at _ _ _ (by simp))
  clear hW1
  have F1 := Lib.hid (HS.nil W1)
  have F2 := Lib.hid (HS.addB F1.out (g := w.heap.size) (t := 25) (cs := #[.slice A a.length c1, .slice B l.length c2]) (XA.out))
  clear F1
  have F3 := Lib.hid (HS.addB F2.out (g := w.heap.size + 1) (t := 25) (cs := #[.slice C b.length c3, .slice D m.length c4]) (XB.out))
  clear F2
  have F4 := Lib.hid (F3.out.addR (HA.out.below LW.out))
  clear F3
  have F5 := Lib.hid (F4.out.addR (HL.out.below LW.out))
  clear F4
  have F6 := Lib.hid (F5.out.addR (HB.out.below LW.out))
  clear F5
  have F7 := Lib.hid (F6.out.addR (HM.out.below LW.out))
  clear F6
  clear XA XB
  have BB := Lib.hid (Below.refl W1.heap.size W1)
  have pa_0 : W1.cell? ⟨w.heap.size, 0, none⟩ = some (.slice A a.length c1) := (F7.out.blk 5 rfl).cell 0
  have pa_1 : W1.cell? ⟨w.heap.size, 1, none⟩ = some (.slice B l.length c2) := (F7.out.blk 5 rfl).cell 1
  go_wp2_with fail
  clear pa_0 pa_1
  by_cases h1 : staB a l = false
  · skip
    refine (refSta_any A B c1 c2 a l _ (F7.out.rd 3 rfl) (F7.out.rd 2 rfl) NA.out NL.out).mono ?_
    rintro e w2 ⟨rfl, hb⟩
    have F8 := Lib.hid (F7.out.below hb)
    clear F7
    replace BB := Lib.hid (bl_then BB.out hb)
    clear hb
    rw [h1]
    have HV := Lib.hid (belS_no (a := a) (b := b) (l := l) (m := m) (.inl h1))
    go_wp2
    go_ret
    exact ⟨ret_bool HV.out.symm, bl_then LW.out (by repeat (first | exact BB.out | refine bl_drewN ?_ _ | refine bl_drew ?_ | refine bl_alloc ?_ _))⟩
  · replace h1 : staB a l = true := by simpa using h1
    refine (refSta_any A B c1 c2 a l _ (F7.out.rd 3 rfl) (F7.out.rd 2 rfl) NA.out NL.out).mono ?_
    rintro e w2 ⟨rfl, hb⟩
    have F9 := Lib.hid (F7.out.below hb)
    clear F7
    replace BB := Lib.hid (bl_then BB.out hb)
    clear hb
    rw [h1]
    have pb_0 : w2.cell? ⟨w.heap.size + 1, 0, none⟩ = some (.slice C b.length c3) := (F9.out.blk 4 rfl).cell 0
    have pb_1 : w2.cell? ⟨w.heap.size + 1, 1, none⟩ = some (.slice D m.length c4) := (F9.out.blk 4 rfl).cell 1
    have H1 := Lib.hid h1
    clear h1
    go_wp2_with fail
    clear pb_0 pb_1
    by_cases h2 : staB b m = false
    · skip
      refine (refSta_any C D c3 c4 b m _ (F9.out.rd 1 rfl) (F9.out.rd 0 rfl) NB.out NM.out).mono ?_
      rintro e w3 ⟨rfl, hb⟩
      have F10 := Lib.hid (F9.out.below hb)
      clear F9
      replace BB := Lib.hid (bl_then BB.out hb)
      clear hb
      rw [h2]
      have HV := Lib.hid (belS_no (a := a) (b := b) (l := l) (m := m) (.inr (.inl h2)))
      go_wp2
      go_ret
      exact ⟨ret_bool HV.out.symm, bl_then LW.out (by repeat (first | exact BB.out | refine bl_drewN ?_ _ | refine bl_drew ?_ | refine bl_alloc ?_ _))⟩
    · replace h2 : staB b m = true := by simpa using h2
      refine (refSta_any C D c3 c4 b m _ (F9.out.rd 1 rfl) (F9.out.rd 0 rfl) NB.out NM.out).mono ?_
      rintro e w3 ⟨rfl, hb⟩
      have F11 := Lib.hid (F9.out.below hb)
      clear F9
      replace BB := Lib.hid (bl_then BB.out hb)
      clear hb
      rw [h2]
      have pa_0 : w3.cell? ⟨w.heap.size, 0, none⟩ = some (.slice A a.length c1) := (F11.out.blk 5 rfl).cell 0
      have pa_1 : w3.cell? ⟨w.heap.size, 1, none⟩ = some (.slice B l.length c2) := (F11.out.blk 5 rfl).cell 1
      have pb_0 : w3.cell? ⟨w.heap.size + 1, 0, none⟩ = some (.slice C b.length c3) := (F11.out.blk 4 rfl).cell 0
      have pb_1 : w3.cell? ⟨w.heap.size + 1, 1, none⟩ = some (.slice D m.length c4) := (F11.out.blk 4 rfl).cell 1
      have H2 := Lib.hid h2
      clear h2
      go_wp2_with fail
      clear pa_0 pa_1 pb_0 pb_1
      by_cases h3 : vbel a b = false
      · skip
        refine (refBelow_bl A C c1 c3 a b _ (F11.out.rd 3 rfl) (F11.out.rd 1 rfl) NA.out NB.out).mono ?_
        rintro e w4 ⟨rfl, hb⟩
        have F12 := Lib.hid (F11.out.below hb)
        clear F11
        replace BB := Lib.hid (bl_then BB.out hb)
        clear hb
        rw [h3]
        have HV := Lib.hid (belS_no (a := a) (b := b) (l := l) (m := m) (.inr (.inr h3)))
        go_wp2
        go_ret
        exact ⟨ret_bool HV.out.symm, bl_then LW.out (by repeat (first | exact BB.out | refine bl_drewN ?_ _ | refine bl_drew ?_ | refine bl_alloc ?_ _))⟩
      · replace h3 : vbel a b = true := by simpa using h3
        refine (refBelow_bl A C c1 c3 a b _ (F11.out.rd 3 rfl) (F11.out.rd 1 rfl) NA.out NB.out).mono ?_
        rintro e w4 ⟨rfl, hb⟩
        have F13 := Lib.hid (F11.out.below hb)
        clear F11
        replace BB := Lib.hid (bl_then BB.out hb)
        clear hb
        rw [h3]
        have pa_0 : w4.cell? ⟨w.heap.size, 0, none⟩ = some (.slice A a.length c1) := (F13.out.blk 5 rfl).cell 0
        have pa_1 : w4.cell? ⟨w.heap.size, 1, none⟩ = some (.slice B l.length c2) := (F13.out.blk 5 rfl).cell 1
        have pb_0 : w4.cell? ⟨w.heap.size + 1, 0, none⟩ = some (.slice C b.length c3) := (F13.out.blk 4 rfl).cell 0
        have pb_1 : w4.cell? ⟨w.heap.size + 1, 1, none⟩ = some (.slice D m.length c4) := (F13.out.blk 4 rfl).cell 1
        have pa_lt : w.heap.size < w4.heap.size := (F13.out.blk 5 rfl).lt
        have pb_lt : w.heap.size + 1 < w4.heap.size := (F13.out.blk 4 rfl).lt
        have H3 := Lib.hid h3
        clear h3
        go_wp2_with fail
        clear pa_0 pa_1 pa_lt pb_0 pb_1 pb_lt
        have HVA := Lib.hid (sta_ok H1.out)
        have HVB := Lib.hid (sta_ok H2.out)
        refine (dots_any A B C D c1 c2 c3 c4 a b l m _ (F13.out.rd 3 rfl) (F13.out.rd 2 rfl) (F13.out.rd 0 rfl) NA.out (sris_of H1.out) (sris_of H2.out) HVA.out.2.1 HVB.out.2.1).mono ?_
        rintro e w6 ⟨vd, rfl, ho, hb⟩
        have F14 := Lib.hid (F13.out.below hb)
        clear F13
        replace BB := Lib.hid (bl_then BB.out hb)
        have HMD := Lib.hid (show (mdots l m).length ≤ 128 by have := mdots_len l m; have := HVA.out.2.1; have := HVB.out.2.1; omega)
        obtain ⟨Ad, nd, cd, rfl⟩ := own_slice ho (by show (mdots l m).length * 16 ≤ _; have := HMD.out; omega)
        obtain rfl : nd = (mdots l m).length := own_n' ho
        have RP := Lib.hid (GR.Own.rd ho (by show (mdots l m).length * 16 ≤ _; have := HMD.out; omega)).2.2
        have HPD := Lib.hid (belD H1.out H2.out H3.out)
        clear ho hb
        obtain ⟨P, hP⟩ : ∃ P, P = mdots l m := ⟨_, rfl⟩
        rw [← hP] at RP HMD HPD ⊢
        clear hP
        have F15 := Lib.hid (F14.out.addR (RP.out))
        clear F14
        clear RP
        go_wp2
        go_loopw [6] (fun j w' => ∃ i : Nat, i ≤ P.length ∧ j = .int .i64 i ∧ Hid (∀ d ∈ P.take i, leP (says a l d) (says b m d)) ∧ Hid (Below w6.heap.size w6 w')) (fun j _ => P.length - (intOf j).toNat)
        case atStart => exact ⟨0, Nat.zero_le _, rfl, Lib.hid (by simp), Lib.hid (by repeat (first | exact Below.refl _ _ | refine bl_drewN ?_ _ | refine bl_drew ?_ | refine bl_alloc ?_ _))⟩
        case round =>
          obtain ⟨i, hi, rfl, hall, hw⟩ := hrel
          have F16 := Lib.hid (F15.out.below hw.out)
          clear F15
          replace BB := Lib.hid (bl_then BB.out hw.out)
          by_cases hlt : i < P.length
          · have i1 : (0 : Int) ≤ (i : Int) := by omega
            have i2 : (i : Int) < (P.length : Int) := by omega
            have hpl : P.length ≤ 128 := HMD.out
            obtain ⟨kd, x, hkx⟩ : ∃ (kd : Int) (x : Sib), says a l P[i] = (kd, x) := ⟨_, _, rfl⟩
            obtain ⟨md, y, hky⟩ : ∃ (md : Int) (y : Sib), says b m P[i] = (md, y) := ⟨_, _, rfl⟩
            have HX := Lib.hid hkx
            have HY := Lib.hid hky
            clear hkx hky
            obtain ⟨ad, eB, _, d0, d1⟩ := dot_at (F16.out.rd 0 rfl) i hlt
            subst eB
            have HR := Lib.hid (Below.refl wr.heap.size wr)
            have HA_ := Lib.hid (F16.out.rd 4 rfl)
            have HL_ := Lib.hid (F16.out.rd 3 rfl)
            have K0 : Hid (wr.cell? ⟨w.heap.size, 0, none⟩ = some (.slice A a.length c1)) := Lib.hid ((F16.out.blk 6 rfl).cell 0)
            have K1 : Hid (wr.cell? ⟨w.heap.size, 1, none⟩ = some (.slice B l.length c2)) := Lib.hid ((F16.out.blk 6 rfl).cell 1)
            have KD0 := Lib.hid d0
            have KD1 := Lib.hid d1
            clear d0 d1
            have pa_lt : w.heap.size < wr.heap.size := (F16.out.blk 6 rfl).lt
            go_upto_region 7 with fail
            go_cut [7, 8] from 36 (fun s7 s8 wx => ∃ g : Nat, s7 = .int .i64 kd ∧ s8 = .pointer (some ⟨g, 0, none⟩) ∧ wr.heap.size ≤ g ∧ Hid (GR.Blk wx g 56 #[.int .u32 x.d.a, .int .u64 x.d.n, .bool x.gone, .string x.v]) ∧ Hid (Below wr.heap.size wr wx))
            case first =>
              refine wp_region_held_drew (S := fun w' => w'.cell? ⟨w.heap.size, 0, none⟩ = some (.slice A a.length c1) ∧ w'.cell? ⟨w.heap.size, 1, none⟩ = some (.slice B l.length c2) ∧ w'.cell? (ad.add (i * 2)) = some (.int .u32 P[i].a) ∧ w'.cell? ⟨(ad.add (i * 2)).block, (ad.add (i * 2)).off + 1, none⟩ = some (.int .u64 P[i].n)) (by kernel_rfl) ?_ (fun hHeld => ?_)
              · exact ⟨(Below.cell (p := ⟨w.heap.size, 0, none⟩) (by repeat (first | exact HR.out | refine bl_drewN ?_ _ | refine bl_drew ?_ | refine bl_alloc ?_ _ | refine Below.setCell ?_ (by simp; try omega) _)) (World.block_lt_of_cell? wr _ K0.out)).trans K0.out, (Below.cell (p := ⟨w.heap.size, 1, none⟩) (by repeat (first | exact HR.out | refine bl_drewN ?_ _ | refine bl_drew ?_ | refine bl_alloc ?_ _ | refine Below.setCell ?_ (by simp; try omega) _)) (World.block_lt_of_cell? wr _ K1.out)).trans K1.out, (Below.cell (p := (ad.add (i * 2))) (by repeat (first | exact HR.out | refine bl_drewN ?_ _ | refine bl_drew ?_ | refine bl_alloc ?_ _ | refine Below.setCell ?_ (by simp; try omega) _)) (World.block_lt_of_cell? wr _ KD0.out)).trans KD0.out, (Below.cell (p := ⟨(ad.add (i * 2)).block, (ad.add (i * 2)).off + 1, none⟩) (by repeat (first | exact HR.out | refine bl_drewN ?_ _ | refine bl_drew ?_ | refine bl_alloc ?_ _ | refine Below.setCell ?_ (by simp; try omega) _)) (World.block_lt_of_cell? wr _ KD1.out)).trans KD1.out⟩
              refine wpAnyH_take (i := 0) (oi := { dst := some 37, op := Op.load 25 (Operand.tmp 2), type := 25, pos := "ref.go:140", after := #[], guard := none }) (v := ?_) rfl (by kernel_rfl) (by kernel_rfl) (by kernel_rfl) (fun _ _ _ h => h) (Or.inl ⟨by rfl, ?_⟩) (by assumption) ?_
              rotate_left
              · intro w_ hSw
                (try dsimp only at hSw)
                go_simp
                first | done | with_reducible rfl
              try simp only [Act.put, List.setIfInBounds_toArray, List.set_cons_zero, List.set_cons_succ]
              refine wpAnyH_take (i := 1) (oi := { dst := some 38, op := Op.move (Operand.tmp 5), type := 22, pos := "ref.go:140", after := #[], guard := none }) (v := ?_) rfl (by kernel_rfl) (by kernel_rfl) (by kernel_rfl) (fun _ _ _ h => h) (Or.inl ⟨by rfl, ?_⟩) (by assumption) ?_
              rotate_left
              · intro w_ hSw
                (try dsimp only at hSw)
                go_simp
                first | done | with_reducible rfl
              try simp only [Act.put, List.setIfInBounds_toArray, List.set_cons_zero, List.set_cons_succ]
              refine wpAnyH_take (i := 2) (oi := { dst := some 39, op := Op.move (Operand.tmp 6), type := 3, pos := "ref.go:140", after := #[], guard := none }) (v := ?_) rfl (by kernel_rfl) (by kernel_rfl) (by kernel_rfl) (fun _ _ _ h => h) (Or.inl ⟨by rfl, ?_⟩) (by assumption) ?_
              rotate_left
              · intro w_ hSw
                (try dsimp only at hSw)
                go_simp
                first | done | with_reducible rfl
              try simp only [Act.put, List.setIfInBounds_toArray, List.set_cons_zero, List.set_cons_succ]
              refine wpAnyH_take (i := 3) (oi := { dst := some 40, op := Op.indexAddr 22 (Operand.tmp 38) (Operand.tmp 39), type := 0, pos := "ref.go:140", after := #[{ on := 1, ground := Ground.data }, { on := 2, ground := Ground.data }], guard := none }) (v := ?_) rfl (by kernel_rfl) (by kernel_rfl) (by kernel_rfl) (fun _ _ _ h => h) (Or.inl ⟨by rfl, ?_⟩) (by assumption) ?_
              rotate_left
              · intro w_ hSw
                (try dsimp only at hSw)
                go_simp
                first | done | with_reducible rfl
              try simp only [Act.put, List.setIfInBounds_toArray, List.set_cons_zero, List.set_cons_succ]
              refine wpAnyH_take (i := 4) (oi := { dst := some 41, op := Op.load 32 (Operand.tmp 40), type := 32, pos := "ref.go:140", after := #[{ on := 3, ground := Ground.data }], guard := none }) (v := ?_) rfl (by kernel_rfl) (by kernel_rfl) (by kernel_rfl) (fun _ _ _ h => h) (Or.inl ⟨by rfl, ?_⟩) (by assumption) ?_
              rotate_left
              · intro w_ hSw
                (try dsimp only at hSw)
                go_simp
                first | done | with_reducible rfl
              try simp only [Act.put, List.setIfInBounds_toArray, List.set_cons_zero, List.set_cons_succ]
              refine wpAnyH_ready (rs := [5, 9]) (by kernel_rfl) (by simp) ?_
              refine AllReadyH.cons (o := { dst := some 42, op := Op.call { callee := Callee.value (Operand.func 51), args := #[Operand.tmp 37, Operand.tmp 41], argTypes := #[25, 32] }, type := 75, pos := "ref.go:140", after := #[{ on := 0, ground := Ground.data }, { on := 4, ground := Ground.data }], guard := none }) rfl (fun K hK => ?_) (AllReadyH.cons (o := { dst := some 8, op := Op.alloc 56, type := 0, pos := "ref.go:140", after := #[], guard := none }) rfl (fun K hK => ?_) (AllReadyH.nil))
              · skip
                go_simp
                go_at_call 51
                refine (says_is HX.out (by repeat (first | exact HA_.out | refine GR.Rd.drewN ?_ _ | refine GR.Rd.drew ?_ | refine GR.Rd.alloc ?_ _)) (by repeat (first | exact HL_.out | refine GR.Rd.drewN ?_ _ | refine GR.Rd.drew ?_ | refine GR.Rd.alloc ?_ _)) NA.out).mono ?_
                rintro e w8 ⟨rfl, hb8⟩
                have hs8 : wr.heap.size ≤ w8.heap.size := (Below.size (bl_then (w := wr) (by repeat (first | exact HR.out | refine bl_drewN ?_ _ | refine bl_drew ?_ | refine bl_alloc ?_ _)) hb8))
                have N_ := Lib.hid (bl_then (w := wr) (by repeat (first | exact HR.out | refine bl_drewN ?_ _ | refine bl_drew ?_ | refine bl_alloc ?_ _)) hb8)
                clear HR
                have HR := N_
                clear N_
                clear hb8
                refine hK.out _ _ ?_ (fun hHeld => ?_)
                · exact ⟨(Below.cell (p := ⟨w.heap.size, 0, none⟩) (by repeat (first | exact HR.out | refine bl_drewN ?_ _ | refine bl_drew ?_ | refine bl_alloc ?_ _ | refine Below.setCell ?_ (by simp; try omega) _)) (World.block_lt_of_cell? wr _ K0.out)).trans K0.out, (Below.cell (p := ⟨w.heap.size, 1, none⟩) (by repeat (first | exact HR.out | refine bl_drewN ?_ _ | refine bl_drew ?_ | refine bl_alloc ?_ _ | refine Below.setCell ?_ (by simp; try omega) _)) (World.block_lt_of_cell? wr _ K1.out)).trans K1.out, (Below.cell (p := (ad.add (i * 2))) (by repeat (first | exact HR.out | refine bl_drewN ?_ _ | refine bl_drew ?_ | refine bl_alloc ?_ _ | refine Below.setCell ?_ (by simp; try omega) _)) (World.block_lt_of_cell? wr _ KD0.out)).trans KD0.out, (Below.cell (p := ⟨(ad.add (i * 2)).block, (ad.add (i * 2)).off + 1, none⟩) (by repeat (first | exact HR.out | refine bl_drewN ?_ _ | refine bl_drew ?_ | refine bl_alloc ?_ _ | refine Below.setCell ?_ (by simp; try omega) _)) (World.block_lt_of_cell? wr _ KD1.out)).trans KD1.out⟩
                clear hK K
                try simp only [Act.put, List.setIfInBounds_toArray, List.set_cons_zero, List.set_cons_succ]
                refine wpAnyH_take (i := 6) (oi := { dst := some 36, op := Op.move (Operand.tmp 42), type := 75, pos := "ref.go:140", after := #[{ on := 5, ground := Ground.data }], guard := none }) (v := ?_) rfl (by kernel_rfl) (by kernel_rfl) (by kernel_rfl) (fun _ _ _ h => h) (Or.inl ⟨by rfl, ?_⟩) (by assumption) ?_
                rotate_left
                · intro w_ hSw
                  (try dsimp only at hSw)
                  go_simp
                  first | done | with_reducible rfl
                try simp only [Act.put, List.setIfInBounds_toArray, List.set_cons_zero, List.set_cons_succ]
                refine wpAnyH_take (i := 7) (oi := { dst := some 43, op := Op.extract (Operand.tmp 36) 0, type := 3, pos := "ref.go:140", after := #[{ on := 6, ground := Ground.data }], guard := none }) (v := ?_) rfl (by kernel_rfl) (by kernel_rfl) (by kernel_rfl) (fun _ _ _ h => h) (Or.inl ⟨by rfl, ?_⟩) (by assumption) ?_
                rotate_left
                · intro w_ hSw
                  (try dsimp only at hSw)
                  go_simp
                  first | done | with_reducible rfl
                try simp only [Act.put, List.setIfInBounds_toArray, List.set_cons_zero, List.set_cons_succ]
                refine wpAnyH_take (i := 8) (oi := { dst := some 44, op := Op.extract (Operand.tmp 36) 1, type := 56, pos := "ref.go:140", after := #[{ on := 6, ground := Ground.data }, { on := 10, ground := Ground.gcOnly Departure.lateStores }], guard := none }) (v := ?_) rfl (by kernel_rfl) (by kernel_rfl) (by kernel_rfl) (fun _ _ _ h => h) (Or.inl ⟨by rfl, ?_⟩) (by assumption) ?_
                rotate_left
                · intro w_ hSw
                  (try dsimp only at hSw)
                  go_simp
                  first | done | with_reducible rfl
                try simp only [Act.put, List.setIfInBounds_toArray, List.set_cons_zero, List.set_cons_succ]
                refine wpAnyH_ready (rs := [9]) (by kernel_rfl) (by simp) ?_
                refine AllReadyH.cons (o := { dst := some 8, op := Op.alloc 56, type := 0, pos := "ref.go:140", after := #[], guard := none }) rfl (fun K hK => ?_) (AllReadyH.nil)
                go_simp
                skip
                refine hK.out _ _ ?_ (fun hHeld => ?_)
                · exact ⟨(Below.cell (p := ⟨w.heap.size, 0, none⟩) (by repeat (first | exact HR.out | refine bl_drewN ?_ _ | refine bl_drew ?_ | refine bl_alloc ?_ _ | refine Below.setCell ?_ (by simp; try omega) _)) (World.block_lt_of_cell? wr _ K0.out)).trans K0.out, (Below.cell (p := ⟨w.heap.size, 1, none⟩) (by repeat (first | exact HR.out | refine bl_drewN ?_ _ | refine bl_drew ?_ | refine bl_alloc ?_ _ | refine Below.setCell ?_ (by simp; try omega) _)) (World.block_lt_of_cell? wr _ K1.out)).trans K1.out, (Below.cell (p := (ad.add (i * 2))) (by repeat (first | exact HR.out | refine bl_drewN ?_ _ | refine bl_drew ?_ | refine bl_alloc ?_ _ | refine Below.setCell ?_ (by simp; try omega) _)) (World.block_lt_of_cell? wr _ KD0.out)).trans KD0.out, (Below.cell (p := ⟨(ad.add (i * 2)).block, (ad.add (i * 2)).off + 1, none⟩) (by repeat (first | exact HR.out | refine bl_drewN ?_ _ | refine bl_drew ?_ | refine bl_alloc ?_ _ | refine Below.setCell ?_ (by simp; try omega) _)) (World.block_lt_of_cell? wr _ KD1.out)).trans KD1.out⟩
                clear hK K
                try simp only [Act.put, List.setIfInBounds_toArray, List.set_cons_zero, List.set_cons_succ]
                refine wpAnyH_take (i := 10) (oi := { dst := some 7, op := Op.assign (Operand.tmp 43), type := 3, pos := "ref.go:140", after := #[{ on := 7, ground := Ground.data }, { on := 5, ground := Ground.chain }, { on := 0, ground := Ground.phase }, { on := 1, ground := Ground.phase }, { on := 2, ground := Ground.phase }, { on := 3, ground := Ground.phase }, { on := 4, ground := Ground.phase }, { on := 5, ground := Ground.phase }, { on := 6, ground := Ground.phase }, { on := 7, ground := Ground.phase }, { on := 8, ground := Ground.textOnly Departure.lateStores }, { on := 9, ground := Ground.phase }], guard := none }) (v := ?_) rfl (by kernel_rfl) (by kernel_rfl) (by kernel_rfl) (fun _ _ _ h => h) (Or.inl ⟨by rfl, ?_⟩) (by assumption) ?_
                rotate_left
                · intro w_ hSw
                  (try dsimp only at hSw)
                  go_simp
                  first | done | with_reducible rfl
                try simp only [Act.put, List.setIfInBounds_toArray, List.set_cons_zero, List.set_cons_succ]
                refine wpAnyH_ready (rs := [11]) (by kernel_rfl) (by simp) ?_
                refine AllReadyH.cons (o := { dst := none, op := Op.store 56 (Operand.tmp 8) (Operand.tmp 44), type := 0, pos := "ref.go:140", after := #[{ on := 9, ground := Ground.data }, { on := 8, ground := Ground.data }, { on := 10, ground := Ground.chain }, { on := 0, ground := Ground.phase }, { on := 1, ground := Ground.phase }, { on := 2, ground := Ground.phase }, { on := 3, ground := Ground.phase }, { on := 4, ground := Ground.phase }, { on := 5, ground := Ground.phase }, { on := 6, ground := Ground.phase }, { on := 7, ground := Ground.phase }, { on := 8, ground := Ground.phase }, { on := 9, ground := Ground.phase }, { on := 10, ground := Ground.phase }], guard := none }) rfl (fun K hK => ?_) (AllReadyH.nil)
                go_simp
                skip
                refine hK.out _ _ ?_ (fun hHeld => ?_)
                · exact ⟨(Below.cell (p := ⟨w.heap.size, 0, none⟩) (by repeat (first | exact HR.out | refine bl_drewN ?_ _ | refine bl_drew ?_ | refine bl_alloc ?_ _ | refine Below.setCell ?_ (by simp; try omega) _)) (World.block_lt_of_cell? wr _ K0.out)).trans K0.out, (Below.cell (p := ⟨w.heap.size, 1, none⟩) (by repeat (first | exact HR.out | refine bl_drewN ?_ _ | refine bl_drew ?_ | refine bl_alloc ?_ _ | refine Below.setCell ?_ (by simp; try omega) _)) (World.block_lt_of_cell? wr _ K1.out)).trans K1.out, (Below.cell (p := (ad.add (i * 2))) (by repeat (first | exact HR.out | refine bl_drewN ?_ _ | refine bl_drew ?_ | refine bl_alloc ?_ _ | refine Below.setCell ?_ (by simp; try omega) _)) (World.block_lt_of_cell? wr _ KD0.out)).trans KD0.out, (Below.cell (p := ⟨(ad.add (i * 2)).block, (ad.add (i * 2)).off + 1, none⟩) (by repeat (first | exact HR.out | refine bl_drewN ?_ _ | refine bl_drew ?_ | refine bl_alloc ?_ _ | refine Below.setCell ?_ (by simp; try omega) _)) (World.block_lt_of_cell? wr _ KD1.out)).trans KD1.out⟩
                clear hK K
                try simp only [Act.put, List.setIfInBounds_toArray, List.set_cons_zero, List.set_cons_succ]
                refine wpAnyH_done (by kernel_rfl) ?_ _
                go_wp2_with fail
                go_meet
                exact ⟨_, rfl, rfl, hs8, Lib.hid (GR.Blk.new _ _ _), Lib.hid (by repeat (first | exact HR.out | refine bl_drewN ?_ _ | refine bl_drew ?_ | refine bl_alloc ?_ _))⟩
              · skip
                go_simp
                skip
                refine hK.out _ _ ?_ (fun hHeld => ?_)
                · exact ⟨(Below.cell (p := ⟨w.heap.size, 0, none⟩) (by repeat (first | exact HR.out | refine bl_drewN ?_ _ | refine bl_drew ?_ | refine bl_alloc ?_ _ | refine Below.setCell ?_ (by simp; try omega) _)) (World.block_lt_of_cell? wr _ K0.out)).trans K0.out, (Below.cell (p := ⟨w.heap.size, 1, none⟩) (by repeat (first | exact HR.out | refine bl_drewN ?_ _ | refine bl_drew ?_ | refine bl_alloc ?_ _ | refine Below.setCell ?_ (by simp; try omega) _)) (World.block_lt_of_cell? wr _ K1.out)).trans K1.out, (Below.cell (p := (ad.add (i * 2))) (by repeat (first | exact HR.out | refine bl_drewN ?_ _ | refine bl_drew ?_ | refine bl_alloc ?_ _ | refine Below.setCell ?_ (by simp; try omega) _)) (World.block_lt_of_cell? wr _ KD0.out)).trans KD0.out, (Below.cell (p := ⟨(ad.add (i * 2)).block, (ad.add (i * 2)).off + 1, none⟩) (by repeat (first | exact HR.out | refine bl_drewN ?_ _ | refine bl_drew ?_ | refine bl_alloc ?_ _ | refine Below.setCell ?_ (by simp; try omega) _)) (World.block_lt_of_cell? wr _ KD1.out)).trans KD1.out⟩
                clear hK K
                try simp only [Act.put, List.setIfInBounds_toArray, List.set_cons_zero, List.set_cons_succ]
                refine wpAnyH_ready (rs := [5]) (by kernel_rfl) (by simp) ?_
                refine AllReadyH.cons (o := { dst := some 42, op := Op.call { callee := Callee.value (Operand.func 51), args := #[Operand.tmp 37, Operand.tmp 41], argTypes := #[25, 32] }, type := 75, pos := "ref.go:140", after := #[{ on := 0, ground := Ground.data }, { on := 4, ground := Ground.data }], guard := none }) rfl (fun K hK => ?_) (AllReadyH.nil)
                go_simp
                go_at_call 51
                refine (says_is HX.out (by repeat (first | exact HA_.out | refine GR.Rd.drewN ?_ _ | refine GR.Rd.drew ?_ | refine GR.Rd.alloc ?_ _)) (by repeat (first | exact HL_.out | refine GR.Rd.drewN ?_ _ | refine GR.Rd.drew ?_ | refine GR.Rd.alloc ?_ _)) NA.out).mono ?_
                rintro e w8 ⟨rfl, hb8⟩
                have hs8 : wr.heap.size ≤ w8.heap.size := (Below.size (bl_then (w := wr) (by repeat (first | exact HR.out | refine bl_drewN ?_ _ | refine bl_drew ?_ | refine bl_alloc ?_ _)) hb8))
                have N_ := Lib.hid (bl_then (w := wr) (by repeat (first | exact HR.out | refine bl_drewN ?_ _ | refine bl_drew ?_ | refine bl_alloc ?_ _)) hb8)
                clear HR
                have HR := N_
                clear N_
                have XG8 : Hid (GR.Blk w8 wr.heap.size 56 #[.int .u32 0, .int .u64 0, .bool false, .string ⟨#[]⟩]) := Lib.hid (by refine GR.Blk.below ?_ hb8 ?_; exact new_at _ _ _ (by simp); simp)
                have e0 := XG8.out.cell 0
                have e1 := XG8.out.cell 1
                have e2 := XG8.out.cell 2
                have e3 := XG8.out.cell 3
                have f0 := XG8.out.frozen 0
                have f1 := XG8.out.frozen 1
                have f2 := XG8.out.frozen 2
                have f3 := XG8.out.frozen 3
                clear hb8
                refine hK.out _ _ ?_ (fun hHeld => ?_)
                · exact ⟨(Below.cell (p := ⟨w.heap.size, 0, none⟩) (by repeat (first | exact HR.out | refine bl_drewN ?_ _ | refine bl_drew ?_ | refine bl_alloc ?_ _ | refine Below.setCell ?_ (by simp; try omega) _)) (World.block_lt_of_cell? wr _ K0.out)).trans K0.out, (Below.cell (p := ⟨w.heap.size, 1, none⟩) (by repeat (first | exact HR.out | refine bl_drewN ?_ _ | refine bl_drew ?_ | refine bl_alloc ?_ _ | refine Below.setCell ?_ (by simp; try omega) _)) (World.block_lt_of_cell? wr _ K1.out)).trans K1.out, (Below.cell (p := (ad.add (i * 2))) (by repeat (first | exact HR.out | refine bl_drewN ?_ _ | refine bl_drew ?_ | refine bl_alloc ?_ _ | refine Below.setCell ?_ (by simp; try omega) _)) (World.block_lt_of_cell? wr _ KD0.out)).trans KD0.out, (Below.cell (p := ⟨(ad.add (i * 2)).block, (ad.add (i * 2)).off + 1, none⟩) (by repeat (first | exact HR.out | refine bl_drewN ?_ _ | refine bl_drew ?_ | refine bl_alloc ?_ _ | refine Below.setCell ?_ (by simp; try omega) _)) (World.block_lt_of_cell? wr _ KD1.out)).trans KD1.out⟩
                clear hK K
                try simp only [Act.put, List.setIfInBounds_toArray, List.set_cons_zero, List.set_cons_succ]
                refine wpAnyH_take (i := 6) (oi := { dst := some 36, op := Op.move (Operand.tmp 42), type := 75, pos := "ref.go:140", after := #[{ on := 5, ground := Ground.data }], guard := none }) (v := ?_) rfl (by kernel_rfl) (by kernel_rfl) (by kernel_rfl) (fun _ _ _ h => h) (Or.inl ⟨by rfl, ?_⟩) (by assumption) ?_
                rotate_left
                · intro w_ hSw
                  (try dsimp only at hSw)
                  go_simp
                  first | done | with_reducible rfl
                try simp only [Act.put, List.setIfInBounds_toArray, List.set_cons_zero, List.set_cons_succ]
                refine wpAnyH_take (i := 7) (oi := { dst := some 43, op := Op.extract (Operand.tmp 36) 0, type := 3, pos := "ref.go:140", after := #[{ on := 6, ground := Ground.data }], guard := none }) (v := ?_) rfl (by kernel_rfl) (by kernel_rfl) (by kernel_rfl) (fun _ _ _ h => h) (Or.inl ⟨by rfl, ?_⟩) (by assumption) ?_
                rotate_left
                · intro w_ hSw
                  (try dsimp only at hSw)
                  go_simp
                  first | done | with_reducible rfl
                try simp only [Act.put, List.setIfInBounds_toArray, List.set_cons_zero, List.set_cons_succ]
                refine wpAnyH_take (i := 8) (oi := { dst := some 44, op := Op.extract (Operand.tmp 36) 1, type := 56, pos := "ref.go:140", after := #[{ on := 6, ground := Ground.data }, { on := 10, ground := Ground.gcOnly Departure.lateStores }], guard := none }) (v := ?_) rfl (by kernel_rfl) (by kernel_rfl) (by kernel_rfl) (fun _ _ _ h => h) (Or.inl ⟨by rfl, ?_⟩) (by assumption) ?_
                rotate_left
                · intro w_ hSw
                  (try dsimp only at hSw)
                  go_simp
                  first | done | with_reducible rfl
                try simp only [Act.put, List.setIfInBounds_toArray, List.set_cons_zero, List.set_cons_succ]
                refine wpAnyH_take (i := 10) (oi := { dst := some 7, op := Op.assign (Operand.tmp 43), type := 3, pos := "ref.go:140", after := #[{ on := 7, ground := Ground.data }, { on := 5, ground := Ground.chain }, { on := 0, ground := Ground.phase }, { on := 1, ground := Ground.phase }, { on := 2, ground := Ground.phase }, { on := 3, ground := Ground.phase }, { on := 4, ground := Ground.phase }, { on := 5, ground := Ground.phase }, { on := 6, ground := Ground.phase }, { on := 7, ground := Ground.phase }, { on := 8, ground := Ground.textOnly Departure.lateStores }, { on := 9, ground := Ground.phase }], guard := none }) (v := ?_) rfl (by kernel_rfl) (by kernel_rfl) (by kernel_rfl) (fun _ _ _ h => h) (Or.inl ⟨by rfl, ?_⟩) (by assumption) ?_
                rotate_left
                · intro w_ hSw
                  (try dsimp only at hSw)
                  go_simp
                  first | done | with_reducible rfl
                try simp only [Act.put, List.setIfInBounds_toArray, List.set_cons_zero, List.set_cons_succ]
                refine wpAnyH_ready (rs := [11]) (by kernel_rfl) (by simp) ?_
                refine AllReadyH.cons (o := { dst := none, op := Op.store 56 (Operand.tmp 8) (Operand.tmp 44), type := 0, pos := "ref.go:140", after := #[{ on := 9, ground := Ground.data }, { on := 8, ground := Ground.data }, { on := 10, ground := Ground.chain }, { on := 0, ground := Ground.phase }, { on := 1, ground := Ground.phase }, { on := 2, ground := Ground.phase }, { on := 3, ground := Ground.phase }, { on := 4, ground := Ground.phase }, { on := 5, ground := Ground.phase }, { on := 6, ground := Ground.phase }, { on := 7, ground := Ground.phase }, { on := 8, ground := Ground.phase }, { on := 9, ground := Ground.phase }, { on := 10, ground := Ground.phase }], guard := none }) rfl (fun K hK => ?_) (AllReadyH.nil)
                go_simp
                skip
                refine hK.out _ _ ?_ (fun hHeld => ?_)
                · exact ⟨(Below.cell (p := ⟨w.heap.size, 0, none⟩) (by repeat (first | exact HR.out | refine bl_drewN ?_ _ | refine bl_drew ?_ | refine bl_alloc ?_ _ | refine Below.setCell ?_ (by simp; try omega) _)) (World.block_lt_of_cell? wr _ K0.out)).trans K0.out, (Below.cell (p := ⟨w.heap.size, 1, none⟩) (by repeat (first | exact HR.out | refine bl_drewN ?_ _ | refine bl_drew ?_ | refine bl_alloc ?_ _ | refine Below.setCell ?_ (by simp; try omega) _)) (World.block_lt_of_cell? wr _ K1.out)).trans K1.out, (Below.cell (p := (ad.add (i * 2))) (by repeat (first | exact HR.out | refine bl_drewN ?_ _ | refine bl_drew ?_ | refine bl_alloc ?_ _ | refine Below.setCell ?_ (by simp; try omega) _)) (World.block_lt_of_cell? wr _ KD0.out)).trans KD0.out, (Below.cell (p := ⟨(ad.add (i * 2)).block, (ad.add (i * 2)).off + 1, none⟩) (by repeat (first | exact HR.out | refine bl_drewN ?_ _ | refine bl_drew ?_ | refine bl_alloc ?_ _ | refine Below.setCell ?_ (by simp; try omega) _)) (World.block_lt_of_cell? wr _ KD1.out)).trans KD1.out⟩
                clear hK K
                try simp only [Act.put, List.setIfInBounds_toArray, List.set_cons_zero, List.set_cons_succ]
                refine wpAnyH_done (by kernel_rfl) ?_ _
                clear e0 e1 e2 e3 f0 f1 f2 f3
                go_wp2_with fail
                go_meet
                exact ⟨_, rfl, rfl, Nat.le_refl _, Lib.hid (GR.Blk.set_ (GR.Blk.set_ (GR.Blk.set_ (GR.Blk.set_ XG8.out 0 _) 1 _) 2 _) 3 _), Lib.hid (by repeat (first | exact HR.out | refine Below.setCell ?_ (by simp) _))⟩
            case rest =>
              obtain ⟨gx, rfl, rfl, hgx, BZ, BC⟩ := hcut
              obtain ⟨w9, hw_⟩ : ∃ x : World, x = wc := ⟨_, rfl⟩
              subst hw_
              clear K0 K1 KD0 KD1 HA_ HL_ HR
              clear pa_lt
              have F17 := Lib.hid (F16.out.below BC.out)
              clear F16
              have F18 := Lib.hid (HS.addB F17.out (g := gx) (t := 56) (cs := #[.int .u32 x.d.a, .int .u64 x.d.n, .bool x.gone, .string x.v]) (BZ.out))
              clear F17
              replace BB := Lib.hid (bl_then BB.out BC.out)
              have BW := Lib.hid (bl_then hw.out BC.out)
              clear BZ BC
              obtain ⟨ad', eB, _, d0, d1⟩ := dot_at (F18.out.rd 1 rfl) i hlt
              obtain rfl : ad = ad' := Option.some.inj eB
              clear eB
              have HR := Lib.hid (Below.refl w9.heap.size w9)
              have HA_ := Lib.hid (F18.out.rd 3 rfl)
              have HL_ := Lib.hid (F18.out.rd 2 rfl)
              have K0 : Hid (w9.cell? ⟨w.heap.size + 1, 0, none⟩ = some (.slice C b.length c3)) := Lib.hid ((F18.out.blk 6 rfl).cell 0)
              have K1 : Hid (w9.cell? ⟨w.heap.size + 1, 1, none⟩ = some (.slice D m.length c4)) := Lib.hid ((F18.out.blk 6 rfl).cell 1)
              have KD0 := Lib.hid d0
              have KD1 := Lib.hid d1
              clear d0 d1
              have pb_lt : w.heap.size + 1 < w9.heap.size := (F18.out.blk 6 rfl).lt
              go_upto_region 8 with fail
              go_cut [9, 10] from 45 (fun s7 s8 wx => ∃ g : Nat, s7 = .int .i64 md ∧ s8 = .pointer (some ⟨g, 0, none⟩) ∧ w9.heap.size ≤ g ∧ Hid (GR.Blk wx g 56 #[.int .u32 y.d.a, .int .u64 y.d.n, .bool y.gone, .string y.v]) ∧ Hid (Below w9.heap.size w9 wx))
              case first =>
                refine wp_region_held_drew (S := fun w' => w'.cell? ⟨w.heap.size + 1, 0, none⟩ = some (.slice C b.length c3) ∧ w'.cell? ⟨w.heap.size + 1, 1, none⟩ = some (.slice D m.length c4) ∧ w'.cell? (ad.add (i * 2)) = some (.int .u32 P[i].a) ∧ w'.cell? ⟨(ad.add (i * 2)).block, (ad.add (i * 2)).off + 1, none⟩ = some (.int .u64 P[i].n)) (by kernel_rfl) ?_ (fun hHeld => ?_)
                · exact ⟨(Below.cell (p := ⟨w.heap.size + 1, 0, none⟩) (by repeat (first | exact HR.out | refine bl_drewN ?_ _ | refine bl_drew ?_ | refine bl_alloc ?_ _ | refine Below.setCell ?_ (by simp; try omega) _)) (World.block_lt_of_cell? w9 _ K0.out)).trans K0.out, (Below.cell (p := ⟨w.heap.size + 1, 1, none⟩) (by repeat (first | exact HR.out | refine bl_drewN ?_ _ | refine bl_drew ?_ | refine bl_alloc ?_ _ | refine Below.setCell ?_ (by simp; try omega) _)) (World.block_lt_of_cell? w9 _ K1.out)).trans K1.out, (Below.cell (p := (ad.add (i * 2))) (by repeat (first | exact HR.out | refine bl_drewN ?_ _ | refine bl_drew ?_ | refine bl_alloc ?_ _ | refine Below.setCell ?_ (by simp; try omega) _)) (World.block_lt_of_cell? w9 _ KD0.out)).trans KD0.out, (Below.cell (p := ⟨(ad.add (i * 2)).block, (ad.add (i * 2)).off + 1, none⟩) (by repeat (first | exact HR.out | refine bl_drewN ?_ _ | refine bl_drew ?_ | refine bl_alloc ?_ _ | refine Below.setCell ?_ (by simp; try omega) _)) (World.block_lt_of_cell? w9 _ KD1.out)).trans KD1.out⟩
                refine wpAnyH_take (i := 0) (oi := { dst := some 46, op := Op.load 25 (Operand.tmp 3), type := 25, pos := "ref.go:141", after := #[], guard := none }) (v := ?_) rfl (by kernel_rfl) (by kernel_rfl) (by kernel_rfl) (fun _ _ _ h => h) (Or.inl ⟨by rfl, ?_⟩) (by assumption) ?_
                rotate_left
                · intro w_ hSw
                  (try dsimp only at hSw)
                  go_simp
                  first | done | with_reducible rfl
                try simp only [Act.put, List.setIfInBounds_toArray, List.set_cons_zero, List.set_cons_succ]
                refine wpAnyH_take (i := 1) (oi := { dst := some 47, op := Op.move (Operand.tmp 5), type := 22, pos := "ref.go:141", after := #[], guard := none }) (v := ?_) rfl (by kernel_rfl) (by kernel_rfl) (by kernel_rfl) (fun _ _ _ h => h) (Or.inl ⟨by rfl, ?_⟩) (by assumption) ?_
                rotate_left
                · intro w_ hSw
                  (try dsimp only at hSw)
                  go_simp
                  first | done | with_reducible rfl
                try simp only [Act.put, List.setIfInBounds_toArray, List.set_cons_zero, List.set_cons_succ]
                refine wpAnyH_take (i := 2) (oi := { dst := some 48, op := Op.move (Operand.tmp 6), type := 3, pos := "ref.go:141", after := #[], guard := none }) (v := ?_) rfl (by kernel_rfl) (by kernel_rfl) (by kernel_rfl) (fun _ _ _ h => h) (Or.inl ⟨by rfl, ?_⟩) (by assumption) ?_
                rotate_left
                · intro w_ hSw
                  (try dsimp only at hSw)
                  go_simp
                  first | done | with_reducible rfl
                try simp only [Act.put, List.setIfInBounds_toArray, List.set_cons_zero, List.set_cons_succ]
                refine wpAnyH_take (i := 3) (oi := { dst := some 49, op := Op.indexAddr 22 (Operand.tmp 47) (Operand.tmp 48), type := 0, pos := "ref.go:141", after := #[{ on := 1, ground := Ground.data }, { on := 2, ground := Ground.data }], guard := none }) (v := ?_) rfl (by kernel_rfl) (by kernel_rfl) (by kernel_rfl) (fun _ _ _ h => h) (Or.inl ⟨by rfl, ?_⟩) (by assumption) ?_
                rotate_left
                · intro w_ hSw
                  (try dsimp only at hSw)
                  go_simp
                  first | done | with_reducible rfl
                try simp only [Act.put, List.setIfInBounds_toArray, List.set_cons_zero, List.set_cons_succ]
                refine wpAnyH_take (i := 4) (oi := { dst := some 50, op := Op.load 32 (Operand.tmp 49), type := 32, pos := "ref.go:141", after := #[{ on := 3, ground := Ground.data }], guard := none }) (v := ?_) rfl (by kernel_rfl) (by kernel_rfl) (by kernel_rfl) (fun _ _ _ h => h) (Or.inl ⟨by rfl, ?_⟩) (by assumption) ?_
                rotate_left
                · intro w_ hSw
                  (try dsimp only at hSw)
                  go_simp
                  first | done | with_reducible rfl
                try simp only [Act.put, List.setIfInBounds_toArray, List.set_cons_zero, List.set_cons_succ]
                refine wpAnyH_ready (rs := [5, 9]) (by kernel_rfl) (by simp) ?_
                refine AllReadyH.cons (o := { dst := some 51, op := Op.call { callee := Callee.value (Operand.func 51), args := #[Operand.tmp 46, Operand.tmp 50], argTypes := #[25, 32] }, type := 75, pos := "ref.go:141", after := #[{ on := 0, ground := Ground.data }, { on := 4, ground := Ground.data }], guard := none }) rfl (fun K hK => ?_) (AllReadyH.cons (o := { dst := some 10, op := Op.alloc 56, type := 0, pos := "ref.go:141", after := #[], guard := none }) rfl (fun K hK => ?_) (AllReadyH.nil))
                · skip
                  go_simp
                  go_at_call 51
                  refine (says_is HY.out (by repeat (first | exact HA_.out | refine GR.Rd.drewN ?_ _ | refine GR.Rd.drew ?_ | refine GR.Rd.alloc ?_ _)) (by repeat (first | exact HL_.out | refine GR.Rd.drewN ?_ _ | refine GR.Rd.drew ?_ | refine GR.Rd.alloc ?_ _)) NB.out).mono ?_
                  rintro e w8 ⟨rfl, hb8⟩
                  have hs8 : w9.heap.size ≤ w8.heap.size := (Below.size (bl_then (w := w9) (by repeat (first | exact HR.out | refine bl_drewN ?_ _ | refine bl_drew ?_ | refine bl_alloc ?_ _)) hb8))
                  have N_ := Lib.hid (bl_then (w := w9) (by repeat (first | exact HR.out | refine bl_drewN ?_ _ | refine bl_drew ?_ | refine bl_alloc ?_ _)) hb8)
                  clear HR
                  have HR := N_
                  clear N_
                  clear hb8
                  refine hK.out _ _ ?_ (fun hHeld => ?_)
                  · exact ⟨(Below.cell (p := ⟨w.heap.size + 1, 0, none⟩) (by repeat (first | exact HR.out | refine bl_drewN ?_ _ | refine bl_drew ?_ | refine bl_alloc ?_ _ | refine Below.setCell ?_ (by simp; try omega) _)) (World.block_lt_of_cell? w9 _ K0.out)).trans K0.out, (Below.cell (p := ⟨w.heap.size + 1, 1, none⟩) (by repeat (first | exact HR.out | refine bl_drewN ?_ _ | refine bl_drew ?_ | refine bl_alloc ?_ _ | refine Below.setCell ?_ (by simp; try omega) _)) (World.block_lt_of_cell? w9 _ K1.out)).trans K1.out, (Below.cell (p := (ad.add (i * 2))) (by repeat (first | exact HR.out | refine bl_drewN ?_ _ | refine bl_drew ?_ | refine bl_alloc ?_ _ | refine Below.setCell ?_ (by simp; try omega) _)) (World.block_lt_of_cell? w9 _ KD0.out)).trans KD0.out, (Below.cell (p := ⟨(ad.add (i * 2)).block, (ad.add (i * 2)).off + 1, none⟩) (by repeat (first | exact HR.out | refine bl_drewN ?_ _ | refine bl_drew ?_ | refine bl_alloc ?_ _ | refine Below.setCell ?_ (by simp; try omega) _)) (World.block_lt_of_cell? w9 _ KD1.out)).trans KD1.out⟩
                  clear hK K
                  try simp only [Act.put, List.setIfInBounds_toArray, List.set_cons_zero, List.set_cons_succ]
                  refine wpAnyH_take (i := 6) (oi := { dst := some 45, op := Op.move (Operand.tmp 51), type := 75, pos := "ref.go:141", after := #[{ on := 5, ground := Ground.data }], guard := none }) (v := ?_) rfl (by kernel_rfl) (by kernel_rfl) (by kernel_rfl) (fun _ _ _ h => h) (Or.inl ⟨by rfl, ?_⟩) (by assumption) ?_
                  rotate_left
                  · intro w_ hSw
                    (try dsimp only at hSw)
                    go_simp
                    first | done | with_reducible rfl
                  try simp only [Act.put, List.setIfInBounds_toArray, List.set_cons_zero, List.set_cons_succ]
                  refine wpAnyH_take (i := 7) (oi := { dst := some 52, op := Op.extract (Operand.tmp 45) 0, type := 3, pos := "ref.go:141", after := #[{ on := 6, ground := Ground.data }], guard := none }) (v := ?_) rfl (by kernel_rfl) (by kernel_rfl) (by kernel_rfl) (fun _ _ _ h => h) (Or.inl ⟨by rfl, ?_⟩) (by assumption) ?_
                  rotate_left
                  · intro w_ hSw
                    (try dsimp only at hSw)
                    go_simp
                    first | done | with_reducible rfl
                  try simp only [Act.put, List.setIfInBounds_toArray, List.set_cons_zero, List.set_cons_succ]
                  refine wpAnyH_take (i := 8) (oi := { dst := some 53, op := Op.extract (Operand.tmp 45) 1, type := 56, pos := "ref.go:141", after := #[{ on := 6, ground := Ground.data }, { on := 10, ground := Ground.gcOnly Departure.lateStores }], guard := none }) (v := ?_) rfl (by kernel_rfl) (by kernel_rfl) (by kernel_rfl) (fun _ _ _ h => h) (Or.inl ⟨by rfl, ?_⟩) (by assumption) ?_
                  rotate_left
                  · intro w_ hSw
                    (try dsimp only at hSw)
                    go_simp
                    first | done | with_reducible rfl
                  try simp only [Act.put, List.setIfInBounds_toArray, List.set_cons_zero, List.set_cons_succ]
                  refine wpAnyH_ready (rs := [9]) (by kernel_rfl) (by simp) ?_
                  refine AllReadyH.cons (o := { dst := some 10, op := Op.alloc 56, type := 0, pos := "ref.go:141", after := #[], guard := none }) rfl (fun K hK => ?_) (AllReadyH.nil)
                  go_simp
                  skip
                  refine hK.out _ _ ?_ (fun hHeld => ?_)
                  · exact ⟨(Below.cell (p := ⟨w.heap.size + 1, 0, none⟩) (by repeat (first | exact HR.out | refine bl_drewN ?_ _ | refine bl_drew ?_ | refine bl_alloc ?_ _ | refine Below.setCell ?_ (by simp; try omega) _)) (World.block_lt_of_cell? w9 _ K0.out)).trans K0.out, (Below.cell (p := ⟨w.heap.size + 1, 1, none⟩) (by repeat (first | exact HR.out | refine bl_drewN ?_ _ | refine bl_drew ?_ | refine bl_alloc ?_ _ | refine Below.setCell ?_ (by simp; try omega) _)) (World.block_lt_of_cell? w9 _ K1.out)).trans K1.out, (Below.cell (p := (ad.add (i * 2))) (by repeat (first | exact HR.out | refine bl_drewN ?_ _ | refine bl_drew ?_ | refine bl_alloc ?_ _ | refine Below.setCell ?_ (by simp; try omega) _)) (World.block_lt_of_cell? w9 _ KD0.out)).trans KD0.out, (Below.cell (p := ⟨(ad.add (i * 2)).block, (ad.add (i * 2)).off + 1, none⟩) (by repeat (first | exact HR.out | refine bl_drewN ?_ _ | refine bl_drew ?_ | refine bl_alloc ?_ _ | refine Below.setCell ?_ (by simp; try omega) _)) (World.block_lt_of_cell? w9 _ KD1.out)).trans KD1.out⟩
                  clear hK K
                  try simp only [Act.put, List.setIfInBounds_toArray, List.set_cons_zero, List.set_cons_succ]
                  refine wpAnyH_take (i := 10) (oi := { dst := some 9, op := Op.assign (Operand.tmp 52), type := 3, pos := "ref.go:141", after := #[{ on := 7, ground := Ground.data }, { on := 5, ground := Ground.chain }, { on := 0, ground := Ground.phase }, { on := 1, ground := Ground.phase }, { on := 2, ground := Ground.phase }, { on := 3, ground := Ground.phase }, { on := 4, ground := Ground.phase }, { on := 5, ground := Ground.phase }, { on := 6, ground := Ground.phase }, { on := 7, ground := Ground.phase }, { on := 8, ground := Ground.textOnly Departure.lateStores }, { on := 9, ground := Ground.phase }], guard := none }) (v := ?_) rfl (by kernel_rfl) (by kernel_rfl) (by kernel_rfl) (fun _ _ _ h => h) (Or.inl ⟨by rfl, ?_⟩) (by assumption) ?_
                  rotate_left
                  · intro w_ hSw
                    (try dsimp only at hSw)
                    go_simp
                    first | done | with_reducible rfl
                  try simp only [Act.put, List.setIfInBounds_toArray, List.set_cons_zero, List.set_cons_succ]
                  refine wpAnyH_ready (rs := [11]) (by kernel_rfl) (by simp) ?_
                  refine AllReadyH.cons (o := { dst := none, op := Op.store 56 (Operand.tmp 10) (Operand.tmp 53), type := 0, pos := "ref.go:141", after := #[{ on := 9, ground := Ground.data }, { on := 8, ground := Ground.data }, { on := 10, ground := Ground.chain }, { on := 0, ground := Ground.phase }, { on := 1, ground := Ground.phase }, { on := 2, ground := Ground.phase }, { on := 3, ground := Ground.phase }, { on := 4, ground := Ground.phase }, { on := 5, ground := Ground.phase }, { on := 6, ground := Ground.phase }, { on := 7, ground := Ground.phase }, { on := 8, ground := Ground.phase }, { on := 9, ground := Ground.phase }, { on := 10, ground := Ground.phase }], guard := none }) rfl (fun K hK => ?_) (AllReadyH.nil)
                  go_simp
                  skip
                  refine hK.out _ _ ?_ (fun hHeld => ?_)
                  · exact ⟨(Below.cell (p := ⟨w.heap.size + 1, 0, none⟩) (by repeat (first | exact HR.out | refine bl_drewN ?_ _ | refine bl_drew ?_ | refine bl_alloc ?_ _ | refine Below.setCell ?_ (by simp; try omega) _)) (World.block_lt_of_cell? w9 _ K0.out)).trans K0.out, (Below.cell (p := ⟨w.heap.size + 1, 1, none⟩) (by repeat (first | exact HR.out | refine bl_drewN ?_ _ | refine bl_drew ?_ | refine bl_alloc ?_ _ | refine Below.setCell ?_ (by simp; try omega) _)) (World.block_lt_of_cell? w9 _ K1.out)).trans K1.out, (Below.cell (p := (ad.add (i * 2))) (by repeat (first | exact HR.out | refine bl_drewN ?_ _ | refine bl_drew ?_ | refine bl_alloc ?_ _ | refine Below.setCell ?_ (by simp; try omega) _)) (World.block_lt_of_cell? w9 _ KD0.out)).trans KD0.out, (Below.cell (p := ⟨(ad.add (i * 2)).block, (ad.add (i * 2)).off + 1, none⟩) (by repeat (first | exact HR.out | refine bl_drewN ?_ _ | refine bl_drew ?_ | refine bl_alloc ?_ _ | refine Below.setCell ?_ (by simp; try omega) _)) (World.block_lt_of_cell? w9 _ KD1.out)).trans KD1.out⟩
                  clear hK K
                  try simp only [Act.put, List.setIfInBounds_toArray, List.set_cons_zero, List.set_cons_succ]
                  refine wpAnyH_done (by kernel_rfl) ?_ _
                  go_wp2_with fail
                  go_meet
                  exact ⟨_, rfl, rfl, hs8, Lib.hid (GR.Blk.new _ _ _), Lib.hid (by repeat (first | exact HR.out | refine bl_drewN ?_ _ | refine bl_drew ?_ | refine bl_alloc ?_ _))⟩
                · skip
                  go_simp
                  skip
                  refine hK.out _ _ ?_ (fun hHeld => ?_)
                  · exact ⟨(Below.cell (p := ⟨w.heap.size + 1, 0, none⟩) (by repeat (first | exact HR.out | refine bl_drewN ?_ _ | refine bl_drew ?_ | refine bl_alloc ?_ _ | refine Below.setCell ?_ (by simp; try omega) _)) (World.block_lt_of_cell? w9 _ K0.out)).trans K0.out, (Below.cell (p := ⟨w.heap.size + 1, 1, none⟩) (by repeat (first | exact HR.out | refine bl_drewN ?_ _ | refine bl_drew ?_ | refine bl_alloc ?_ _ | refine Below.setCell ?_ (by simp; try omega) _)) (World.block_lt_of_cell? w9 _ K1.out)).trans K1.out, (Below.cell (p := (ad.add (i * 2))) (by repeat (first | exact HR.out | refine bl_drewN ?_ _ | refine bl_drew ?_ | refine bl_alloc ?_ _ | refine Below.setCell ?_ (by simp; try omega) _)) (World.block_lt_of_cell? w9 _ KD0.out)).trans KD0.out, (Below.cell (p := ⟨(ad.add (i * 2)).block, (ad.add (i * 2)).off + 1, none⟩) (by repeat (first | exact HR.out | refine bl_drewN ?_ _ | refine bl_drew ?_ | refine bl_alloc ?_ _ | refine Below.setCell ?_ (by simp; try omega) _)) (World.block_lt_of_cell? w9 _ KD1.out)).trans KD1.out⟩
                  clear hK K
                  try simp only [Act.put, List.setIfInBounds_toArray, List.set_cons_zero, List.set_cons_succ]
                  refine wpAnyH_ready (rs := [5]) (by kernel_rfl) (by simp) ?_
                  refine AllReadyH.cons (o := { dst := some 51, op := Op.call { callee := Callee.value (Operand.func 51), args := #[Operand.tmp 46, Operand.tmp 50], argTypes := #[25, 32] }, type := 75, pos := "ref.go:141", after := #[{ on := 0, ground := Ground.data }, { on := 4, ground := Ground.data }], guard := none }) rfl (fun K hK => ?_) (AllReadyH.nil)
                  go_simp
                  go_at_call 51
                  refine (says_is HY.out (by repeat (first | exact HA_.out | refine GR.Rd.drewN ?_ _ | refine GR.Rd.drew ?_ | refine GR.Rd.alloc ?_ _)) (by repeat (first | exact HL_.out | refine GR.Rd.drewN ?_ _ | refine GR.Rd.drew ?_ | refine GR.Rd.alloc ?_ _)) NB.out).mono ?_
                  rintro e w8 ⟨rfl, hb8⟩
                  have hs8 : w9.heap.size ≤ w8.heap.size := (Below.size (bl_then (w := w9) (by repeat (first | exact HR.out | refine bl_drewN ?_ _ | refine bl_drew ?_ | refine bl_alloc ?_ _)) hb8))
                  have N_ := Lib.hid (bl_then (w := w9) (by repeat (first | exact HR.out | refine bl_drewN ?_ _ | refine bl_drew ?_ | refine bl_alloc ?_ _)) hb8)
                  clear HR
                  have HR := N_
                  clear N_
                  have XG8 : Hid (GR.Blk w8 w9.heap.size 56 #[.int .u32 0, .int .u64 0, .bool false, .string ⟨#[]⟩]) := Lib.hid (by refine GR.Blk.below ?_ hb8 ?_; exact new_at _ _ _ (by simp); simp)
                  have e0 := XG8.out.cell 0
                  have e1 := XG8.out.cell 1
                  have e2 := XG8.out.cell 2
                  have e3 := XG8.out.cell 3
                  have f0 := XG8.out.frozen 0
                  have f1 := XG8.out.frozen 1
                  have f2 := XG8.out.frozen 2
                  have f3 := XG8.out.frozen 3
                  clear hb8
                  refine hK.out _ _ ?_ (fun hHeld => ?_)
                  · exact ⟨(Below.cell (p := ⟨w.heap.size + 1, 0, none⟩) (by repeat (first | exact HR.out | refine bl_drewN ?_ _ | refine bl_drew ?_ | refine bl_alloc ?_ _ | refine Below.setCell ?_ (by simp; try omega) _)) (World.block_lt_of_cell? w9 _ K0.out)).trans K0.out, (Below.cell (p := ⟨w.heap.size + 1, 1, none⟩) (by repeat (first | exact HR.out | refine bl_drewN ?_ _ | refine bl_drew ?_ | refine bl_alloc ?_ _ | refine Below.setCell ?_ (by simp; try omega) _)) (World.block_lt_of_cell? w9 _ K1.out)).trans K1.out, (Below.cell (p := (ad.add (i * 2))) (by repeat (first | exact HR.out | refine bl_drewN ?_ _ | refine bl_drew ?_ | refine bl_alloc ?_ _ | refine Below.setCell ?_ (by simp; try omega) _)) (World.block_lt_of_cell? w9 _ KD0.out)).trans KD0.out, (Below.cell (p := ⟨(ad.add (i * 2)).block, (ad.add (i * 2)).off + 1, none⟩) (by repeat (first | exact HR.out | refine bl_drewN ?_ _ | refine bl_drew ?_ | refine bl_alloc ?_ _ | refine Below.setCell ?_ (by simp; try omega) _)) (World.block_lt_of_cell? w9 _ KD1.out)).trans KD1.out⟩
                  clear hK K
                  try simp only [Act.put, List.setIfInBounds_toArray, List.set_cons_zero, List.set_cons_succ]
                  refine wpAnyH_take (i := 6) (oi := { dst := some 45, op := Op.move (Operand.tmp 51), type := 75, pos := "ref.go:141", after := #[{ on := 5, ground := Ground.data }], guard := none }) (v := ?_) rfl (by kernel_rfl) (by kernel_rfl) (by kernel_rfl) (fun _ _ _ h => h) (Or.inl ⟨by rfl, ?_⟩) (by assumption) ?_
                  rotate_left
                  · intro w_ hSw
                    (try dsimp only at hSw)
                    go_simp
                    first | done | with_reducible rfl
                  try simp only [Act.put, List.setIfInBounds_toArray, List.set_cons_zero, List.set_cons_succ]
                  refine wpAnyH_take (i := 7) (oi := { dst := some 52, op := Op.extract (Operand.tmp 45) 0, type := 3, pos := "ref.go:141", after := #[{ on := 6, ground := Ground.data }], guard := none }) (v := ?_) rfl (by kernel_rfl) (by kernel_rfl) (by kernel_rfl) (fun _ _ _ h => h) (Or.inl ⟨by rfl, ?_⟩) (by assumption) ?_
                  rotate_left
                  · intro w_ hSw
                    (try dsimp only at hSw)
                    go_simp
                    first | done | with_reducible rfl
                  try simp only [Act.put, List.setIfInBounds_toArray, List.set_cons_zero, List.set_cons_succ]
                  refine wpAnyH_take (i := 8) (oi := { dst := some 53, op := Op.extract (Operand.tmp 45) 1, type := 56, pos := "ref.go:141", after := #[{ on := 6, ground := Ground.data }, { on := 10, ground := Ground.gcOnly Departure.lateStores }], guard := none }) (v := ?_) rfl (by kernel_rfl) (by kernel_rfl) (by kernel_rfl) (fun _ _ _ h => h) (Or.inl ⟨by rfl, ?_⟩) (by assumption) ?_
                  rotate_left
                  · intro w_ hSw
                    (try dsimp only at hSw)
                    go_simp
                    first | done | with_reducible rfl
                  try simp only [Act.put, List.setIfInBounds_toArray, List.set_cons_zero, List.set_cons_succ]
                  refine wpAnyH_take (i := 10) (oi := { dst := some 9, op := Op.assign (Operand.tmp 52), type := 3, pos := "ref.go:141", after := #[{ on := 7, ground := Ground.data }, { on := 5, ground := Ground.chain }, { on := 0, ground := Ground.phase }, { on := 1, ground := Ground.phase }, { on := 2, ground := Ground.phase }, { on := 3, ground := Ground.phase }, { on := 4, ground := Ground.phase }, { on := 5, ground := Ground.phase }, { on := 6, ground := Ground.phase }, { on := 7, ground := Ground.phase }, { on := 8, ground := Ground.textOnly Departure.lateStores }, { on := 9, ground := Ground.phase }], guard := none }) (v := ?_) rfl (by kernel_rfl) (by kernel_rfl) (by kernel_rfl) (fun _ _ _ h => h) (Or.inl ⟨by rfl, ?_⟩) (by assumption) ?_
                  rotate_left
                  · intro w_ hSw
                    (try dsimp only at hSw)
                    go_simp
                    first | done | with_reducible rfl
                  try simp only [Act.put, List.setIfInBounds_toArray, List.set_cons_zero, List.set_cons_succ]
                  refine wpAnyH_ready (rs := [11]) (by kernel_rfl) (by simp) ?_
                  refine AllReadyH.cons (o := { dst := none, op := Op.store 56 (Operand.tmp 10) (Operand.tmp 53), type := 0, pos := "ref.go:141", after := #[{ on := 9, ground := Ground.data }, { on := 8, ground := Ground.data }, { on := 10, ground := Ground.chain }, { on := 0, ground := Ground.phase }, { on := 1, ground := Ground.phase }, { on := 2, ground := Ground.phase }, { on := 3, ground := Ground.phase }, { on := 4, ground := Ground.phase }, { on := 5, ground := Ground.phase }, { on := 6, ground := Ground.phase }, { on := 7, ground := Ground.phase }, { on := 8, ground := Ground.phase }, { on := 9, ground := Ground.phase }, { on := 10, ground := Ground.phase }], guard := none }) rfl (fun K hK => ?_) (AllReadyH.nil)
                  go_simp
                  skip
                  refine hK.out _ _ ?_ (fun hHeld => ?_)
                  · exact ⟨(Below.cell (p := ⟨w.heap.size + 1, 0, none⟩) (by repeat (first | exact HR.out | refine bl_drewN ?_ _ | refine bl_drew ?_ | refine bl_alloc ?_ _ | refine Below.setCell ?_ (by simp; try omega) _)) (World.block_lt_of_cell? w9 _ K0.out)).trans K0.out, (Below.cell (p := ⟨w.heap.size + 1, 1, none⟩) (by repeat (first | exact HR.out | refine bl_drewN ?_ _ | refine bl_drew ?_ | refine bl_alloc ?_ _ | refine Below.setCell ?_ (by simp; try omega) _)) (World.block_lt_of_cell? w9 _ K1.out)).trans K1.out, (Below.cell (p := (ad.add (i * 2))) (by repeat (first | exact HR.out | refine bl_drewN ?_ _ | refine bl_drew ?_ | refine bl_alloc ?_ _ | refine Below.setCell ?_ (by simp; try omega) _)) (World.block_lt_of_cell? w9 _ KD0.out)).trans KD0.out, (Below.cell (p := ⟨(ad.add (i * 2)).block, (ad.add (i * 2)).off + 1, none⟩) (by repeat (first | exact HR.out | refine bl_drewN ?_ _ | refine bl_drew ?_ | refine bl_alloc ?_ _ | refine Below.setCell ?_ (by simp; try omega) _)) (World.block_lt_of_cell? w9 _ KD1.out)).trans KD1.out⟩
                  clear hK K
                  try simp only [Act.put, List.setIfInBounds_toArray, List.set_cons_zero, List.set_cons_succ]
                  refine wpAnyH_done (by kernel_rfl) ?_ _
                  clear e0 e1 e2 e3 f0 f1 f2 f3
                  go_wp2_with fail
                  go_meet
                  exact ⟨_, rfl, rfl, Nat.le_refl _, Lib.hid (GR.Blk.set_ (GR.Blk.set_ (GR.Blk.set_ (GR.Blk.set_ XG8.out 0 _) 1 _) 2 _) 3 _), Lib.hid (by repeat (first | exact HR.out | refine Below.setCell ?_ (by simp) _))⟩
              case rest =>
                obtain ⟨gy, rfl, rfl, hgy, BZ, BC⟩ := hcut
                obtain ⟨w10, hw_⟩ : ∃ x : World, x = wc := ⟨_, rfl⟩
                subst hw_
                clear K0 K1 KD0 KD1 HA_ HL_ HR
                clear pb_lt
                have F19 := Lib.hid (F18.out.below BC.out)
                clear F18
                have F20 := Lib.hid (HS.addB F19.out (g := gy) (t := 56) (cs := #[.int .u32 y.d.a, .int .u64 y.d.n, .bool y.gone, .string y.v]) (BZ.out))
                clear F19
                replace BB := Lib.hid (bl_then BB.out BC.out)
                replace BW := Lib.hid (bl_then BW.out BC.out)
                clear BZ BC
                have px_0 : w10.cell? ⟨gx, 0, none⟩ = some (.int .u32 x.d.a) := (F20.out.blk 1 rfl).cell 0
                have px_1 : w10.cell? ⟨gx, 1, none⟩ = some (.int .u64 x.d.n) := (F20.out.blk 1 rfl).cell 1
                have px_2 : w10.cell? ⟨gx, 2, none⟩ = some (.bool x.gone) := (F20.out.blk 1 rfl).cell 2
                have px_3 : w10.cell? ⟨gx, 3, none⟩ = some (.string x.v) := (F20.out.blk 1 rfl).cell 3
                have py_0 : w10.cell? ⟨gy, 0, none⟩ = some (.int .u32 y.d.a) := (F20.out.blk 0 rfl).cell 0
                have py_1 : w10.cell? ⟨gy, 1, none⟩ = some (.int .u64 y.d.n) := (F20.out.blk 0 rfl).cell 1
                have py_2 : w10.cell? ⟨gy, 2, none⟩ = some (.bool y.gone) := (F20.out.blk 0 rfl).cell 2
                have py_3 : w10.cell? ⟨gy, 3, none⟩ = some (.string y.v) := (F20.out.blk 0 rfl).cell 3
                by_cases h0 : md < kd
                · skip
                  have q1 : decide (md < kd) = true := by simpa using h0
                  have HV := Lib.hid (belD_no (a := a) (b := b) (l := l) (m := m) (d := P[i]) (by rw [HX.out, HY.out]; rintro (h | ⟨h1, h2⟩); · { have : kd < md := h; omega }; · { have : kd = md := h1; omega }))
                  go_wp2
                  go_ret
                  exact ⟨ret_bool HV.out.symm, bl_then LW.out (by repeat (first | exact BB.out | refine bl_drewN ?_ _ | refine bl_drew ?_ | refine bl_alloc ?_ _))⟩
                · skip
                  by_cases k1 : kd = 1
                  · skip
                    by_cases m1 : md = 1
                    · skip
                      have q1 : decide (md < kd) = false := by simp; omega
                      have q2 : (md == 1) = true := by simpa using m1
                      have q3 : (kd == 1) = true := by simpa using k1
                      rcases hle : lesB x y with _ | _
                      · go_wp2_with fail
                        refine (refLes_x x y _).mono ?_
                        rintro e w11 ⟨rfl, hb⟩
                        rw [hle]
                        have F21 := Lib.hid (F20.out.below hb)
                        clear F20
                        replace BB := Lib.hid (bl_then BB.out hb)
                        replace BW := Lib.hid (bl_then BW.out hb)
                        have HLE := Lib.hid hle
                        clear hb hle px_0 px_1 px_2 px_3 py_0 py_1 py_2 py_3 q1 q2 q3
                        have HN := Lib.hid (all_snoc hlt hall.out (p := fun d => leP (says a l d) (says b m d)) (by rw [HX.out, HY.out]; exact .inr ⟨by show kd = md; omega, fun _ => HLE.out⟩))
                        go_wp2
                        go_roundw
                        case rel => exact ⟨i + 1, by omega, by go_num, HN, BW⟩
                        case measure => simp [intOf]; omega
                      · go_wp2_with fail
                        refine (refLes_x x y _).mono ?_
                        rintro e w11 ⟨rfl, hb⟩
                        rw [hle]
                        have F22 := Lib.hid (F20.out.below hb)
                        clear F20
                        replace BB := Lib.hid (bl_then BB.out hb)
                        replace BW := Lib.hid (bl_then BW.out hb)
                        have HLE := Lib.hid hle
                        clear hb hle px_0 px_1 px_2 px_3 py_0 py_1 py_2 py_3 q1 q2 q3
                        have HV := Lib.hid (belD_no (a := a) (b := b) (l := l) (m := m) (d := P[i]) (by rw [HX.out, HY.out]; rintro (h | ⟨h1, h2⟩); · { have : kd < md := h; omega }; · { have h3 : lesB x y = false := h2 k1; rw [HLE.out] at h3; cases h3 }))
                        go_wp2
                        go_ret
                        exact ⟨ret_bool HV.out.symm, bl_then LW.out (by repeat (first | exact BB.out | refine bl_drewN ?_ _ | refine bl_drew ?_ | refine bl_alloc ?_ _))⟩
                    · skip
                      have q1 : decide (md < kd) = false := by simp; omega
                      have q2 : (kd == 1) = true := by simpa using k1
                      have q3 : (md == 1) = false := by simpa using m1
                      have HN := Lib.hid (all_snoc hlt hall.out (p := fun d => leP (says a l d) (says b m d)) (by rw [HX.out, HY.out]; exact .inl (by show kd < md; omega)))
                      go_wp2
                      go_roundw
                      case rel => exact ⟨i + 1, by omega, by go_num, HN, BW⟩
                      case measure => simp [intOf]; omega
                  · skip
                    have q1 : decide (md < kd) = false := by simp; omega
                    have q2 : (kd == 1) = false := by simpa using k1
                    have HN := Lib.hid (all_snoc hlt hall.out (p := fun d => leP (says a l d) (says b m d)) (by rw [HX.out, HY.out]; rcases Int.lt_or_eq_of_le (show kd ≤ md by omega) with h | h; · { exact .inl h }; · { exact .inr ⟨h, fun h2 => absurd h2 k1⟩ }))
                    go_wp2
                    go_roundw
                    case rel => exact ⟨i + 1, by omega, by go_num, HN, BW⟩
                    case measure => simp [intOf]; omega
          · obtain rfl : i = P.length := by omega
            have HV := Lib.hid (HPD.out (by have := hall.out; rwa [List.take_length] at this))
            go_wp2
            go_ret
            exact ⟨ret_bool HV.out.symm, bl_then LW.out BB.out⟩
end Go.Proofs.Ytlmnmlehnigfdaa
