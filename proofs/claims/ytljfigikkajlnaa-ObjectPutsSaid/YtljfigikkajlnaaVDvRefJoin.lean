/- DERIVED. The document's Join. -/
import Derived.Test.YtljfigikkajlnaaVDvDots
import Derived.Test.YtljfigikkajlnaaVDvJoin
import Derived.Test.YtljfigikkajlnaaVDvRefValid
import Derived.Test.YtljfigikkajlnaaVm13
namespace Go.Proofs.Ytljfigikkajlnaa
open Go.RowKit
set_option linter.unusedVariables false
set_option linter.unusedSimpArgs false
theorem mdots_len : ∀ (l m : List Sib), (mdots l m).length ≤ l.length + m.length
  | [], [] => by simp [mdots]
  | [], y :: m => by have := mdots_len [] m; rw [mdots]; simp at this ⊢; omega
  | x :: l, [] => by have := mdots_len l []; rw [mdots]; simp at this ⊢; omega
  | x :: l, y :: m => by
    have h1 := mdots_len l (y :: m)
    have h2 := mdots_len (x :: l) m
    have h3 := mdots_len l m
    rw [mdots]
    split
    · simp at h1 ⊢; omega
    · split
      · simp at h2 ⊢; omega
      · simp at h3 ⊢; omega
termination_by l m => l.length + m.length
theorem says_is {A B : Option Addr} {c1 c2 : Nat} {a : List Dot} {l : List Sib} {d : Dot} {w : World} {k : Int} {z : Sib} (h : says a l d = (k, z)) (ha : GR.Rd dotK w A a) (hl : GR.Rd sibK w B l) (na : ∀ d ∈ a, 0 ≤ d.n) :
    Calls Try.prog 71 #[.agg #[.slice A a.length c1, .slice B l.length c2], .agg #[.int .u32 d.a, .int .u64 d.n]] w
      fun e w' => e = .returned (.tuple #[.int .i64 k, .agg #[.int .u32 z.d.a, .int .u64 z.d.n, .bool z.gone, .string z.v]]) ∧ Below w.heap.size w w' := by
  have := says_any A B c1 c2 a l d w ha hl na
  rw [h] at this
  exact this
theorem refLes_x (x y : Sib) (w : World) : Calls Try.prog 72 #[.agg #[.int .u32 x.d.a, .int .u64 x.d.n, .bool x.gone, .string x.v], .agg #[.int .u32 y.d.a, .int .u64 y.d.n, .bool y.gone, .string y.v]] w fun e w' => e = .returned (.bool (lesB x y)) ∧ Below w.heap.size w w' := refLes_any x y w
theorem take_none {f : Dot → Option Sib} {P : List Dot} {i : Nat} (h : i < P.length) (e : f P[i] = none) : (P.take (i + 1)).filterMap f = (P.take i).filterMap f := by
  rw [List.take_succ_eq_append_getElem h, List.filterMap_append]; simp [e]
theorem take_some {f : Dot → Option Sib} {P : List Dot} {i : Nat} {x : Sib} (h : i < P.length) (e : f P[i] = some x) : (P.take (i + 1)).filterMap f = (P.take i).filterMap f ++ [x] := by
  rw [List.take_succ_eq_append_getElem h, List.filterMap_append]; simp [e]
theorem own_far1 {α : Type} {K : GR.Kind α} {w : World} {g B j : Nat} {t : TypeId} {cs : Array Value} {v : Value} {l : List α} (h : GR.Own K w B v l) (bg : GR.Blk w g t cs) (u : Value) (hne : K.e ≠ t) : GR.Own K (w.setCell ⟨g, j, none⟩ u) B v l :=
  h.grown (row := some g) ⟨rfl, rfl, rfl, by simp [World.setCell], fun k _ hk => Below.heap_setCell _ _ _ _ (by intro e; subst e; exact hk rfl)⟩ (.inr (GR.own_blk_ne h bg hne))
set_option maxRecDepth 100000 in
set_option maxHeartbeats 12800000 in
theorem refJoin_any (A B C D : Option Addr) (c1 c2 c3 c4 : Nat) (a b : List Dot) (l m : List Sib) (w : World) (ha : GR.Rd dotK w A a) (hl : GR.Rd sibK w B l) (hb : GR.Rd dotK w C b) (hm : GR.Rd sibK w D m)
    (na : ∀ d ∈ a, 0 ≤ d.n) (nl : ∀ x ∈ l, 0 ≤ x.d.n) (nb : ∀ d ∈ b, 0 ≤ d.n) (nm : ∀ x ∈ m, 0 ≤ x.d.n) :
    Calls Try.prog 33 #[.agg #[.slice A a.length c1, .slice B l.length c2], .agg #[.slice C b.length c3, .slice D m.length c4]] w fun e w' => ∃ v1 v2, e = .returned (.tuple #[.agg #[v1, v2], .int .i64 (joinE a l b m)]) ∧ GR.Own dotK w' w.heap.size v1 (joinA a l b m) ∧ GR.Own sibK w' w.heap.size v2 (joinL a l b m) ∧ Below w.heap.size w w' := by
  obtain ⟨i0, hi0, hz0, hz1, hz2⟩ := info_parts sib_info
  have HA := Lib.hid ha
  have HL := Lib.hid hl
  have HB := Lib.hid hb
  have HM := Lib.hid hm
  have NA := Lib.hid na
  have NL := Lib.hid nl
  have NB := Lib.hid nb
  have NM := Lib.hid nm
  clear ha hl hb hm na nl nb nm
  go_enter Try.func33, Try.ntmps33
  go_wp2_with fail
  obtain ⟨W1, hW1⟩ : ∃ W1 : World, W1 = ((w.alloc (.cells #[.slice A a.length c1, .slice B l.length c2] 25)).alloc (.cells #[.slice C b.length c3, .slice D m.length c4] 25)).alloc (.cells #[.slice none 0 0, .slice none 0 0] 25) := ⟨_, rfl⟩
  rw [← hW1]
  have LW : Hid (Below w.heap.size w W1) := Lib.hid (by rw [hW1]; exact (by repeat (first | exact Below.refl _ _ | refine bl_drewN ?_ _ | refine bl_drew ?_ | refine bl_alloc ?_ _)))
  have XA : Hid (GR.Blk W1 w.heap.size 25 #[.slice A a.length c1, .slice B l.length c2]) := Lib.hid (by rw [hW1]; exact ((GR.Blk.new _ _ _).alloc _).alloc _)
  have XB : Hid (GR.Blk W1 (w.heap.size + 1) 25 #[.slice C b.length c3, .slice D m.length c4]) := Lib.hid (by rw [hW1]; exact (new_at _ _ _ (by simp)).alloc _)
  have XR : Hid (GR.Blk W1 (w.heap.size + 1 + 1) 25 #[.slice none 0 0, .slice none 0 0]) := Lib.hid (by rw [hW1]; exact new_at _ _ _ (by simp))
  clear hW1
  have L1 := Lib.hid (Below.refl W1.heap.size W1)
  have s0 : W1.cell? ⟨w.heap.size, 0, none⟩ = some (.slice A a.length c1) := (XA.out.below L1.out XA.out.lt).cell 0
  have s1 : W1.cell? ⟨w.heap.size, 1, none⟩ = some (.slice B l.length c2) := (XA.out.below L1.out XA.out.lt).cell 1
  have t0 : W1.cell? ⟨w.heap.size + 1, 0, none⟩ = some (.slice C b.length c3) := (XB.out.below L1.out XB.out.lt).cell 0
  have t1 : W1.cell? ⟨w.heap.size + 1, 1, none⟩ = some (.slice D m.length c4) := (XB.out.below L1.out XB.out.lt).cell 1
  go_wp2_with fail
  clear s0 s1 t0 t1 L1
  by_cases h1 : staB a l = true
  · refine (refSta_any _ _ _ _ a l _ (HA.out.below LW.out) (HL.out.below LW.out) NA.out NL.out).mono ?_
    rintro e w2 ⟨rfl, L2_⟩
    rw [h1]
    have L2 := Lib.hid L2_
    clear L2_
    have s0 : w2.cell? ⟨w.heap.size, 0, none⟩ = some (.slice A a.length c1) := (XA.out.below L2.out XA.out.lt).cell 0
    have s1 : w2.cell? ⟨w.heap.size, 1, none⟩ = some (.slice B l.length c2) := (XA.out.below L2.out XA.out.lt).cell 1
    have t0 : w2.cell? ⟨w.heap.size + 1, 0, none⟩ = some (.slice C b.length c3) := (XB.out.below L2.out XB.out.lt).cell 0
    have t1 : w2.cell? ⟨w.heap.size + 1, 1, none⟩ = some (.slice D m.length c4) := (XB.out.below L2.out XB.out.lt).cell 1
    go_wp2_with fail
    by_cases h2 : staB b m = true
    · refine (refSta_any _ _ _ _ b m _ (HB.out.below (bl_then LW.out L2.out)) (HM.out.below (bl_then LW.out L2.out)) NB.out NM.out).mono ?_
      rintro e w3 ⟨rfl, L3_⟩
      rw [h2]
      have L3 := Lib.hid (bl_then L2.out L3_)
      have H1 := Lib.hid h1
      have H2 := Lib.hid h2
      clear L3_ h1 h2 s0 s1 t0 t1 L2
      have s0 : w3.cell? ⟨w.heap.size, 0, none⟩ = some (.slice A a.length c1) := (XA.out.below L3.out XA.out.lt).cell 0
      have s1 : w3.cell? ⟨w.heap.size, 1, none⟩ = some (.slice B l.length c2) := (XA.out.below L3.out XA.out.lt).cell 1
      have t0 : w3.cell? ⟨w.heap.size + 1, 0, none⟩ = some (.slice C b.length c3) := (XB.out.below L3.out XB.out.lt).cell 0
      have t1 : w3.cell? ⟨w.heap.size + 1, 1, none⟩ = some (.slice D m.length c4) := (XB.out.below L3.out XB.out.lt).cell 1
      have HVA := Lib.hid (sta_ok H1.out)
      have HVB := Lib.hid (sta_ok H2.out)
      go_wp2_with fail
      refine (refMax_any _ _ _ _ a b _ (HA.out.below (bl_then LW.out L3.out)) (HB.out.below (bl_then LW.out L3.out)) NA.out NB.out).mono ?_
      rintro e w4 ⟨vs, rfl, hos, L4_⟩
      have L4 := Lib.hid (bl_then L3.out L4_)
      have OS0 := Lib.hid (hos.base (show W1.heap.size ≤ w3.heap.size from L3.out.size))
      clear L4_ hos s0 s1 t0 t1 L3
      rcases max_err HVA.out.1 HVB.out.1 with ⟨hx64, hxe, hxl⟩ | ⟨hx64, hxe⟩
      · rw [hxe]
        have OS : Hid (GR.Own dotK w4 W1.heap.size vs (vmax a b)) := Lib.hid (by have := OS0.out; rwa [hxl] at this)
        have HX64 := Lib.hid hx64
        clear hxe hxl hx64 OS0
        obtain ⟨As, cs, ev, _, _⟩ := OS.out.rd' (by show (vmax a b).length * 16 ≤ _; have := HX64.out; omega)
        subst ev
        have s0 : w4.cell? ⟨w.heap.size, 0, none⟩ = some (.slice A a.length c1) := (XA.out.below L4.out XA.out.lt).cell 0
        have s1 : w4.cell? ⟨w.heap.size, 1, none⟩ = some (.slice B l.length c2) := (XA.out.below L4.out XA.out.lt).cell 1
        have t0 : w4.cell? ⟨w.heap.size + 1, 0, none⟩ = some (.slice C b.length c3) := (XB.out.below L4.out XB.out.lt).cell 0
        have t1 : w4.cell? ⟨w.heap.size + 1, 1, none⟩ = some (.slice D m.length c4) := (XB.out.below L4.out XB.out.lt).cell 1
        have hw0 : w.heap.size < w4.heap.size := (XA.out.below L4.out XA.out.lt).lt
        have hw1 : w.heap.size + 1 < w4.heap.size := (XB.out.below L4.out XB.out.lt).lt
        go_wp2_with fail
        obtain ⟨W5, hW5⟩ : ∃ W5 : World, W5 = w4.alloc (.cells #[.slice As (vmax a b).length cs, .slice none 0 0] 25) := ⟨_, rfl⟩
        rw [← hW5]
        have hb5 : Below w4.heap.size w4 W5 := by rw [hW5]; exact (by repeat (first | exact Below.refl _ _ | refine bl_drewN ?_ _ | refine bl_drew ?_ | refine bl_alloc ?_ _))
        have XG : Hid (GR.Blk W5 w4.heap.size 25 #[.slice As (vmax a b).length cs, .slice none 0 0]) := Lib.hid (by rw [hW5]; exact GR.Blk.new _ _ _)
        have O5 := Lib.hid (OS.out.below hb5)
        have L5 := Lib.hid (bl_then L4.out hb5)
        have g5 : W1.heap.size ≤ w4.heap.size := L4.out.size
        obtain ⟨g8, hg8⟩ : ∃ g8, g8 = w4.heap.size := ⟨_, rfl⟩
        rw [← hg8] at XG g5 ⊢
        clear hW5 hb5 hg8 s0 s1 t0 t1 OS L4 hw0 hw1
        refine (ddots_any A B C D c1 c2 c3 c4 a b l m _ (HA.out.below (bl_then LW.out L5.out)) (HL.out.below (bl_then LW.out L5.out)) (HM.out.below (bl_then LW.out L5.out)) NA.out (sris_of H1.out) (sris_of H2.out) HVA.out.2.1 HVB.out.2.1).mono ?_
        rintro e w6 ⟨vd, rfl, hd6, L6_⟩
        have gW5 : g8 < W5.heap.size := XG.out.lt
        have L6 := Lib.hid (bl_then L5.out L6_)
        have BG6 := Lib.hid (XG.out.below L6_ gW5)
        have HD6 := Lib.hid (hd6.base L5.out.size)
        have OS6 := Lib.hid (O5.out.below L6_)
        have HMD := Lib.hid (show (mdots l m).length ≤ 128 by have := mdots_len l m; have := HVA.out.2.1; have := HVB.out.2.1; omega)
        obtain ⟨Ad, cd, ev, _, _⟩ := HD6.out.rd' (by show (mdots l m).length * 16 ≤ _; have := HMD.out; omega)
        subst ev
        have HPJ := Lib.hid (pick_join (a := a) (b := b) (sris_of H1.out) (sris_of H2.out))
        clear hd6 L6_ O5 L5 gW5 XG
        obtain ⟨P, hP⟩ : ∃ P, P = mdots l m := ⟨_, rfl⟩
        rw [← hP] at HD6 HMD HPJ ⊢
        clear hP
        go_wp2
        go_loopw [10] (fun j w' => ∃ (i : Nat) (v : Value), i ≤ P.length ∧ j = .int .i64 i ∧ Hid (GR.Blk w' g8 25 #[.slice As (vmax a b).length cs, v]) ∧ Hid (GR.Own sibK w' W1.heap.size v ((P.take i).filterMap (jpick a b l m))) ∧ Hid (GR.Own dotK w' W1.heap.size (.slice As (vmax a b).length cs) (vmax a b)) ∧ Hid (GR.Own dotK w' W1.heap.size (.slice Ad P.length cd) P) ∧ Hid (Below W1.heap.size W1 w')) (fun j _ => P.length - (intOf j).toNat)
        case atStart => exact ⟨0, _, Nat.zero_le _, rfl, BG6, Lib.hid (by simpa using GR.Own.nil _ _ _), OS6, HD6, L6⟩
        case round =>
          clear BG6 OS6 HD6 L6
          obtain ⟨i, v, hi, rfl, BG, ho, OS, HD, L7⟩ := hrel
          by_cases hlt : i < P.length
          · obtain ⟨acc, hacc⟩ : ∃ acc, acc = (P.take i).filterMap (jpick a b l m) := ⟨_, rfl⟩
            rw [← hacc] at ho
            have HAL := Lib.hid (show acc.length ≤ 128 by rw [hacc]; exact Nat.le_trans (List.length_filterMap_le _ _) (by have := HMD.out; simp; omega))
            have HAC := Lib.hid hacc
            clear hacc
            have i1 : (0 : Int) ≤ (i : Int) := by omega
            have i2 : (i : Int) < (P.length : Int) := by omega
            have hpl : P.length ≤ 128 := HMD.out
            have hwg : w.heap.size < wr.heap.size := (XA.out.below L7.out XA.out.lt).lt
            have hwg1 : w.heap.size + 1 < wr.heap.size := (XB.out.below L7.out XB.out.lt).lt
            have hg8 : g8 < wr.heap.size := BG.out.lt
            obtain ⟨gd, cap, ed, _, hgw⟩ := own_some HD.out (by intro e; rw [e] at hlt; exact absurd hlt (by simp))
            cases ed
            obtain ⟨d0, d1, _, _⟩ := own_dot HD.out (List.getElem?_eq_getElem hlt)
            have KA0 : Hid (wr.cell? ⟨w.heap.size, 0, none⟩ = some (.slice A a.length c1)) := Lib.hid ((XA.out.below L7.out XA.out.lt).cell 0)
            have KA1 : Hid (wr.cell? ⟨w.heap.size, 1, none⟩ = some (.slice B l.length c2)) := Lib.hid ((XA.out.below L7.out XA.out.lt).cell 1)
            have KB0 : Hid (wr.cell? ⟨w.heap.size + 1, 0, none⟩ = some (.slice C b.length c3)) := Lib.hid ((XB.out.below L7.out XB.out.lt).cell 0)
            have KB1 : Hid (wr.cell? ⟨w.heap.size + 1, 1, none⟩ = some (.slice D m.length c4)) := Lib.hid ((XB.out.below L7.out XB.out.lt).cell 1)
            have KD0 := Lib.hid d0
            have KD1 := Lib.hid d1
            clear d0 d1
            obtain ⟨kd, x, hkx⟩ : ∃ (kd : Int) (x : Sib), says a l P[i] = (kd, x) := ⟨_, _, rfl⟩
            obtain ⟨md, y, hky⟩ : ∃ (md : Int) (y : Sib), says b m P[i] = (md, y) := ⟨_, _, rfl⟩
            have HX := Lib.hid hkx
            have HY := Lib.hid hky
            have HAr := Lib.hid (HA.out.below (bl_then LW.out L7.out))
            have HLr := Lib.hid (HL.out.below (bl_then LW.out L7.out))
            have HR := Lib.hid (Below.refl wr.heap.size wr)
            clear hkx hky
            go_wp2
            refine wp_region_held_drew (S := fun w' => w'.cell? ⟨w.heap.size, 0, none⟩ = some (.slice A a.length c1) ∧ w'.cell? ⟨w.heap.size, 1, none⟩ = some (.slice B l.length c2) ∧ w'.cell? ⟨gd, i * 2, none⟩ = some (.int .u32 P[i].a) ∧ w'.cell? ⟨gd, i * 2 + 1, none⟩ = some (.int .u64 P[i].n)) (by kernel_rfl) ?_ (fun hHeld => ?_)
            · exact ⟨(Below.cell (p := ⟨w.heap.size, 0, none⟩) (by repeat (first | exact HR.out | refine bl_drewN ?_ _ | refine bl_drew ?_ | refine bl_alloc ?_ _ | refine Below.setCell ?_ (by simp; try omega) _)) (World.block_lt_of_cell? wr _ KA0.out)).trans KA0.out, (Below.cell (p := ⟨w.heap.size, 1, none⟩) (by repeat (first | exact HR.out | refine bl_drewN ?_ _ | refine bl_drew ?_ | refine bl_alloc ?_ _ | refine Below.setCell ?_ (by simp; try omega) _)) (World.block_lt_of_cell? wr _ KA1.out)).trans KA1.out, (Below.cell (p := ⟨gd, i * 2, none⟩) (by repeat (first | exact HR.out | refine bl_drewN ?_ _ | refine bl_drew ?_ | refine bl_alloc ?_ _ | refine Below.setCell ?_ (by simp; try omega) _)) (World.block_lt_of_cell? wr _ KD0.out)).trans KD0.out, (Below.cell (p := ⟨gd, i * 2 + 1, none⟩) (by repeat (first | exact HR.out | refine bl_drewN ?_ _ | refine bl_drew ?_ | refine bl_alloc ?_ _ | refine Below.setCell ?_ (by simp; try omega) _)) (World.block_lt_of_cell? wr _ KD1.out)).trans KD1.out⟩
            refine wpAnyH_take (i := 0) (oi := { dst := some 47, op := Op.load 25 (Operand.tmp 2), type := 25, pos := "ref.go:117", after := #[], guard := none }) (v := ?_) rfl (by kernel_rfl) (by kernel_rfl) (by kernel_rfl) (fun _ _ _ h => h) (Or.inl ⟨by rfl, ?_⟩) (by assumption) ?_
            rotate_left
            · intro w_ hSw; (try dsimp only at hSw); go_simp; first | done | with_reducible rfl
            try simp only [Act.put, List.setIfInBounds_toArray, List.set_cons_zero, List.set_cons_succ]
            refine wpAnyH_take (i := 1) (oi := { dst := some 48, op := Op.move (Operand.tmp 9), type := 22, pos := "ref.go:117", after := #[], guard := none }) (v := ?_) rfl (by kernel_rfl) (by kernel_rfl) (by kernel_rfl) (fun _ _ _ h => h) (Or.inl ⟨by rfl, ?_⟩) (by assumption) ?_
            rotate_left
            · intro w_ hSw; (try dsimp only at hSw); go_simp; first | done | with_reducible rfl
            try simp only [Act.put, List.setIfInBounds_toArray, List.set_cons_zero, List.set_cons_succ]
            refine wpAnyH_take (i := 2) (oi := { dst := some 49, op := Op.move (Operand.tmp 10), type := 3, pos := "ref.go:117", after := #[], guard := none }) (v := ?_) rfl (by kernel_rfl) (by kernel_rfl) (by kernel_rfl) (fun _ _ _ h => h) (Or.inl ⟨by rfl, ?_⟩) (by assumption) ?_
            rotate_left
            · intro w_ hSw; (try dsimp only at hSw); go_simp; first | done | with_reducible rfl
            try simp only [Act.put, List.setIfInBounds_toArray, List.set_cons_zero, List.set_cons_succ]
            refine wpAnyH_take (i := 3) (oi := { dst := some 50, op := Op.indexAddr 22 (Operand.tmp 48) (Operand.tmp 49), type := 0, pos := "ref.go:117", after := #[{ on := 1, ground := Ground.data }, { on := 2, ground := Ground.data }], guard := none }) (v := ?_) rfl (by kernel_rfl) (by kernel_rfl) (by kernel_rfl) (fun _ _ _ h => h) (Or.inl ⟨by rfl, ?_⟩) (by assumption) ?_
            rotate_left
            · intro w_ hSw; (try dsimp only at hSw); go_simp; first | done | with_reducible rfl
            try simp only [Act.put, List.setIfInBounds_toArray, List.set_cons_zero, List.set_cons_succ]
            refine wpAnyH_take (i := 4) (oi := { dst := some 51, op := Op.load 41 (Operand.tmp 50), type := 41, pos := "ref.go:117", after := #[{ on := 3, ground := Ground.data }], guard := none }) (v := ?_) rfl (by kernel_rfl) (by kernel_rfl) (by kernel_rfl) (fun _ _ _ h => h) (Or.inl ⟨by rfl, ?_⟩) (by assumption) ?_
            rotate_left
            · intro w_ hSw; (try dsimp only at hSw); go_simp; first | done | with_reducible rfl
            try simp only [Act.put, List.setIfInBounds_toArray, List.set_cons_zero, List.set_cons_succ]
            refine wpAnyH_ready (rs := [5, 9]) (by kernel_rfl) (by simp) ?_
            refine AllReadyH.cons (o := { dst := some 52, op := Op.call { callee := Callee.value (Operand.func 71), args := #[Operand.tmp 47, Operand.tmp 51], argTypes := #[25, 41] }, type := 102, pos := "ref.go:117", after := #[{ on := 0, ground := Ground.data }, { on := 4, ground := Ground.data }], guard := none }) rfl (fun K hK => ?_) (AllReadyH.cons (o := { dst := some 12, op := Op.alloc 67, type := 0, pos := "ref.go:117", after := #[], guard := none }) rfl (fun K hK => ?_) (AllReadyH.nil))
            · skip
              go_simp
              go_at_call 71
              refine (says_is HX.out (by repeat (first | exact HAr.out | refine GR.Rd.drewN ?_ _ | refine GR.Rd.drew ?_ | refine GR.Rd.alloc ?_ _)) (by repeat (first | exact HLr.out | refine GR.Rd.drewN ?_ _ | refine GR.Rd.drew ?_ | refine GR.Rd.alloc ?_ _)) NA.out).mono ?_
              rintro e w8 ⟨rfl, hb8⟩
              have hs8 : wr.heap.size ≤ w8.heap.size := (Below.size (bl_then (w := wr) (by repeat (first | exact HR.out | refine bl_drewN ?_ _ | refine bl_drew ?_ | refine bl_alloc ?_ _)) hb8))
              have N_ := Lib.hid (bl_then (w := wr) (by repeat (first | exact HR.out | refine bl_drewN ?_ _ | refine bl_drew ?_ | refine bl_alloc ?_ _)) hb8)
              clear HR
              have HR := N_
              clear N_
              clear hb8
              refine hK.out _ _ ?_ (fun hHeld => ?_)
              · exact ⟨(Below.cell (p := ⟨w.heap.size, 0, none⟩) (by repeat (first | exact HR.out | refine bl_drewN ?_ _ | refine bl_drew ?_ | refine bl_alloc ?_ _ | refine Below.setCell ?_ (by simp; try omega) _)) (World.block_lt_of_cell? wr _ KA0.out)).trans KA0.out, (Below.cell (p := ⟨w.heap.size, 1, none⟩) (by repeat (first | exact HR.out | refine bl_drewN ?_ _ | refine bl_drew ?_ | refine bl_alloc ?_ _ | refine Below.setCell ?_ (by simp; try omega) _)) (World.block_lt_of_cell? wr _ KA1.out)).trans KA1.out, (Below.cell (p := ⟨gd, i * 2, none⟩) (by repeat (first | exact HR.out | refine bl_drewN ?_ _ | refine bl_drew ?_ | refine bl_alloc ?_ _ | refine Below.setCell ?_ (by simp; try omega) _)) (World.block_lt_of_cell? wr _ KD0.out)).trans KD0.out, (Below.cell (p := ⟨gd, i * 2 + 1, none⟩) (by repeat (first | exact HR.out | refine bl_drewN ?_ _ | refine bl_drew ?_ | refine bl_alloc ?_ _ | refine Below.setCell ?_ (by simp; try omega) _)) (World.block_lt_of_cell? wr _ KD1.out)).trans KD1.out⟩
              clear hK K
              try simp only [Act.put, List.setIfInBounds_toArray, List.set_cons_zero, List.set_cons_succ]
              refine wpAnyH_take (i := 6) (oi := { dst := some 46, op := Op.move (Operand.tmp 52), type := 102, pos := "ref.go:117", after := #[{ on := 5, ground := Ground.data }], guard := none }) (v := ?_) rfl (by kernel_rfl) (by kernel_rfl) (by kernel_rfl) (fun _ _ _ h => h) (Or.inl ⟨by rfl, ?_⟩) (by assumption) ?_
              rotate_left
              · intro w_ hSw; (try dsimp only at hSw); go_simp; first | done | with_reducible rfl
              try simp only [Act.put, List.setIfInBounds_toArray, List.set_cons_zero, List.set_cons_succ]
              refine wpAnyH_take (i := 7) (oi := { dst := some 53, op := Op.extract (Operand.tmp 46) 0, type := 3, pos := "ref.go:117", after := #[{ on := 6, ground := Ground.data }], guard := none }) (v := ?_) rfl (by kernel_rfl) (by kernel_rfl) (by kernel_rfl) (fun _ _ _ h => h) (Or.inl ⟨by rfl, ?_⟩) (by assumption) ?_
              rotate_left
              · intro w_ hSw; (try dsimp only at hSw); go_simp; first | done | with_reducible rfl
              try simp only [Act.put, List.setIfInBounds_toArray, List.set_cons_zero, List.set_cons_succ]
              refine wpAnyH_take (i := 8) (oi := { dst := some 54, op := Op.extract (Operand.tmp 46) 1, type := 67, pos := "ref.go:117", after := #[{ on := 6, ground := Ground.data }, { on := 10, ground := Ground.gcOnly Departure.lateStores }], guard := none }) (v := ?_) rfl (by kernel_rfl) (by kernel_rfl) (by kernel_rfl) (fun _ _ _ h => h) (Or.inl ⟨by rfl, ?_⟩) (by assumption) ?_
              rotate_left
              · intro w_ hSw; (try dsimp only at hSw); go_simp; first | done | with_reducible rfl
              try simp only [Act.put, List.setIfInBounds_toArray, List.set_cons_zero, List.set_cons_succ]
              refine wpAnyH_ready (rs := [9]) (by kernel_rfl) (by simp) ?_
              refine AllReadyH.cons (o := { dst := some 12, op := Op.alloc 67, type := 0, pos := "ref.go:117", after := #[], guard := none }) rfl (fun K hK => ?_) (AllReadyH.nil)
              go_simp
              skip
              refine hK.out _ _ ?_ (fun hHeld => ?_)
              · exact ⟨(Below.cell (p := ⟨w.heap.size, 0, none⟩) (by repeat (first | exact HR.out | refine bl_drewN ?_ _ | refine bl_drew ?_ | refine bl_alloc ?_ _ | refine Below.setCell ?_ (by simp; try omega) _)) (World.block_lt_of_cell? wr _ KA0.out)).trans KA0.out, (Below.cell (p := ⟨w.heap.size, 1, none⟩) (by repeat (first | exact HR.out | refine bl_drewN ?_ _ | refine bl_drew ?_ | refine bl_alloc ?_ _ | refine Below.setCell ?_ (by simp; try omega) _)) (World.block_lt_of_cell? wr _ KA1.out)).trans KA1.out, (Below.cell (p := ⟨gd, i * 2, none⟩) (by repeat (first | exact HR.out | refine bl_drewN ?_ _ | refine bl_drew ?_ | refine bl_alloc ?_ _ | refine Below.setCell ?_ (by simp; try omega) _)) (World.block_lt_of_cell? wr _ KD0.out)).trans KD0.out, (Below.cell (p := ⟨gd, i * 2 + 1, none⟩) (by repeat (first | exact HR.out | refine bl_drewN ?_ _ | refine bl_drew ?_ | refine bl_alloc ?_ _ | refine Below.setCell ?_ (by simp; try omega) _)) (World.block_lt_of_cell? wr _ KD1.out)).trans KD1.out⟩
              clear hK K
              try simp only [Act.put, List.setIfInBounds_toArray, List.set_cons_zero, List.set_cons_succ]
              refine wpAnyH_take (i := 10) (oi := { dst := some 11, op := Op.assign (Operand.tmp 53), type := 3, pos := "ref.go:117", after := #[{ on := 7, ground := Ground.data }, { on := 5, ground := Ground.chain }, { on := 0, ground := Ground.phase }, { on := 1, ground := Ground.phase }, { on := 2, ground := Ground.phase }, { on := 3, ground := Ground.phase }, { on := 4, ground := Ground.phase }, { on := 5, ground := Ground.phase }, { on := 6, ground := Ground.phase }, { on := 7, ground := Ground.phase }, { on := 8, ground := Ground.textOnly Departure.lateStores }, { on := 9, ground := Ground.phase }], guard := none }) (v := ?_) rfl (by kernel_rfl) (by kernel_rfl) (by kernel_rfl) (fun _ _ _ h => h) (Or.inl ⟨by rfl, ?_⟩) (by assumption) ?_
              rotate_left
              · intro w_ hSw; (try dsimp only at hSw); go_simp; first | done | with_reducible rfl
              try simp only [Act.put, List.setIfInBounds_toArray, List.set_cons_zero, List.set_cons_succ]
              refine wpAnyH_ready (rs := [11]) (by kernel_rfl) (by simp) ?_
              refine AllReadyH.cons (o := { dst := none, op := Op.store 67 (Operand.tmp 12) (Operand.tmp 54), type := 0, pos := "ref.go:117", after := #[{ on := 9, ground := Ground.data }, { on := 8, ground := Ground.data }, { on := 10, ground := Ground.chain }, { on := 0, ground := Ground.phase }, { on := 1, ground := Ground.phase }, { on := 2, ground := Ground.phase }, { on := 3, ground := Ground.phase }, { on := 4, ground := Ground.phase }, { on := 5, ground := Ground.phase }, { on := 6, ground := Ground.phase }, { on := 7, ground := Ground.phase }, { on := 8, ground := Ground.phase }, { on := 9, ground := Ground.phase }, { on := 10, ground := Ground.phase }], guard := none }) rfl (fun K hK => ?_) (AllReadyH.nil)
              go_simp
              skip
              refine hK.out _ _ ?_ (fun hHeld => ?_)
              · exact ⟨(Below.cell (p := ⟨w.heap.size, 0, none⟩) (by repeat (first | exact HR.out | refine bl_drewN ?_ _ | refine bl_drew ?_ | refine bl_alloc ?_ _ | refine Below.setCell ?_ (by simp; try omega) _)) (World.block_lt_of_cell? wr _ KA0.out)).trans KA0.out, (Below.cell (p := ⟨w.heap.size, 1, none⟩) (by repeat (first | exact HR.out | refine bl_drewN ?_ _ | refine bl_drew ?_ | refine bl_alloc ?_ _ | refine Below.setCell ?_ (by simp; try omega) _)) (World.block_lt_of_cell? wr _ KA1.out)).trans KA1.out, (Below.cell (p := ⟨gd, i * 2, none⟩) (by repeat (first | exact HR.out | refine bl_drewN ?_ _ | refine bl_drew ?_ | refine bl_alloc ?_ _ | refine Below.setCell ?_ (by simp; try omega) _)) (World.block_lt_of_cell? wr _ KD0.out)).trans KD0.out, (Below.cell (p := ⟨gd, i * 2 + 1, none⟩) (by repeat (first | exact HR.out | refine bl_drewN ?_ _ | refine bl_drew ?_ | refine bl_alloc ?_ _ | refine Below.setCell ?_ (by simp; try omega) _)) (World.block_lt_of_cell? wr _ KD1.out)).trans KD1.out⟩
              clear hK K
              try simp only [Act.put, List.setIfInBounds_toArray, List.set_cons_zero, List.set_cons_succ]
              refine wpAnyH_done (by kernel_rfl) ?_ _
              clear hHeld
              skip
              obtain ⟨W8, h_⟩ : ∃ W8 : World, W8 = w8.alloc (.cells #[.int .u32 x.d.a, .int .u64 x.d.n, .bool x.gone, .string x.v] 67) := ⟨_, rfl⟩
              rw [← h_]
              obtain ⟨gx, hg_⟩ : ∃ gx : Nat, gx = w8.heap.size := ⟨_, rfl⟩
              have Xgx : Hid (GR.Blk W8 gx 67 #[.int .u32 x.d.a, .int .u64 x.d.n, .bool x.gone, .string x.v]) := Lib.hid (by rw [h_, hg_]; exact GR.Blk.new _ _ _)
              have HW8 : Hid (Below wr.heap.size wr W8) := Lib.hid (by rw [h_]; exact (by repeat (first | exact HR.out | refine bl_drewN ?_ _ | refine bl_drew ?_ | refine bl_alloc ?_ _)))
              rw [← hg_]
              have hgx : wr.heap.size ≤ gx := by rw [hg_]; exact hs8
              clear h_ hg_ hs8 HR
              have KB0 : Hid (W8.cell? ⟨w.heap.size + 1, 0, none⟩ = some (.slice C b.length c3)) := Lib.hid ((XB.out.below (below_then L7.out HW8.out) XB.out.lt).cell 0)
              have KB1 : Hid (W8.cell? ⟨w.heap.size + 1, 1, none⟩ = some (.slice D m.length c4)) := Lib.hid ((XB.out.below (below_then L7.out HW8.out) XB.out.lt).cell 1)
              have KD2 : Hid (W8.cell? ⟨gd, i * 2, none⟩ = some (.int .u32 P[i].a)) := Lib.hid ((Below.cell (p := ⟨gd, i * 2, none⟩) HW8.out hgw).trans KD0.out)
              have KD3 : Hid (W8.cell? ⟨gd, i * 2 + 1, none⟩ = some (.int .u64 P[i].n)) := Lib.hid ((Below.cell (p := ⟨gd, i * 2 + 1, none⟩) HW8.out hgw).trans KD1.out)
              clear KD0 KD1 KA0 KA1
              have KD0 := KD2
              have KD1 := KD3
              clear KD2 KD3
              have HBr := Lib.hid (HB.out.below (bl_then LW.out (below_then L7.out HW8.out)))
              have HMr := Lib.hid (HM.out.below (bl_then LW.out (below_then L7.out HW8.out)))
              have HR2 := Lib.hid (Below.refl W8.heap.size W8)
              have hw8 : wr.heap.size ≤ W8.heap.size := HW8.out.size
              go_wp2
              refine wp_region_held_drew (S := fun w' => w'.cell? ⟨w.heap.size + 1, 0, none⟩ = some (.slice C b.length c3) ∧ w'.cell? ⟨w.heap.size + 1, 1, none⟩ = some (.slice D m.length c4) ∧ w'.cell? ⟨gd, i * 2, none⟩ = some (.int .u32 P[i].a) ∧ w'.cell? ⟨gd, i * 2 + 1, none⟩ = some (.int .u64 P[i].n)) (by kernel_rfl) ?_ (fun hHeld => ?_)
              · exact ⟨(Below.cell (p := ⟨w.heap.size + 1, 0, none⟩) (by repeat (first | exact HR2.out | refine bl_drewN ?_ _ | refine bl_drew ?_ | refine bl_alloc ?_ _ | refine Below.setCell ?_ (by simp; try omega) _)) (World.block_lt_of_cell? W8 _ KB0.out)).trans KB0.out, (Below.cell (p := ⟨w.heap.size + 1, 1, none⟩) (by repeat (first | exact HR2.out | refine bl_drewN ?_ _ | refine bl_drew ?_ | refine bl_alloc ?_ _ | refine Below.setCell ?_ (by simp; try omega) _)) (World.block_lt_of_cell? W8 _ KB1.out)).trans KB1.out, (Below.cell (p := ⟨gd, i * 2, none⟩) (by repeat (first | exact HR2.out | refine bl_drewN ?_ _ | refine bl_drew ?_ | refine bl_alloc ?_ _ | refine Below.setCell ?_ (by simp; try omega) _)) (World.block_lt_of_cell? W8 _ KD0.out)).trans KD0.out, (Below.cell (p := ⟨gd, i * 2 + 1, none⟩) (by repeat (first | exact HR2.out | refine bl_drewN ?_ _ | refine bl_drew ?_ | refine bl_alloc ?_ _ | refine Below.setCell ?_ (by simp; try omega) _)) (World.block_lt_of_cell? W8 _ KD1.out)).trans KD1.out⟩
              refine wpAnyH_take (i := 0) (oi := { dst := some 56, op := Op.load 25 (Operand.tmp 3), type := 25, pos := "ref.go:118", after := #[], guard := none }) (v := ?_) rfl (by kernel_rfl) (by kernel_rfl) (by kernel_rfl) (fun _ _ _ h => h) (Or.inl ⟨by rfl, ?_⟩) (by assumption) ?_
              rotate_left
              · intro w_ hSw; (try dsimp only at hSw); go_simp; first | done | with_reducible rfl
              try simp only [Act.put, List.setIfInBounds_toArray, List.set_cons_zero, List.set_cons_succ]
              refine wpAnyH_take (i := 1) (oi := { dst := some 57, op := Op.move (Operand.tmp 9), type := 22, pos := "ref.go:118", after := #[], guard := none }) (v := ?_) rfl (by kernel_rfl) (by kernel_rfl) (by kernel_rfl) (fun _ _ _ h => h) (Or.inl ⟨by rfl, ?_⟩) (by assumption) ?_
              rotate_left
              · intro w_ hSw; (try dsimp only at hSw); go_simp; first | done | with_reducible rfl
              try simp only [Act.put, List.setIfInBounds_toArray, List.set_cons_zero, List.set_cons_succ]
              refine wpAnyH_take (i := 2) (oi := { dst := some 58, op := Op.move (Operand.tmp 10), type := 3, pos := "ref.go:118", after := #[], guard := none }) (v := ?_) rfl (by kernel_rfl) (by kernel_rfl) (by kernel_rfl) (fun _ _ _ h => h) (Or.inl ⟨by rfl, ?_⟩) (by assumption) ?_
              rotate_left
              · intro w_ hSw; (try dsimp only at hSw); go_simp; first | done | with_reducible rfl
              try simp only [Act.put, List.setIfInBounds_toArray, List.set_cons_zero, List.set_cons_succ]
              refine wpAnyH_take (i := 3) (oi := { dst := some 59, op := Op.indexAddr 22 (Operand.tmp 57) (Operand.tmp 58), type := 0, pos := "ref.go:118", after := #[{ on := 1, ground := Ground.data }, { on := 2, ground := Ground.data }], guard := none }) (v := ?_) rfl (by kernel_rfl) (by kernel_rfl) (by kernel_rfl) (fun _ _ _ h => h) (Or.inl ⟨by rfl, ?_⟩) (by assumption) ?_
              rotate_left
              · intro w_ hSw; (try dsimp only at hSw); go_simp; first | done | with_reducible rfl
              try simp only [Act.put, List.setIfInBounds_toArray, List.set_cons_zero, List.set_cons_succ]
              refine wpAnyH_take (i := 4) (oi := { dst := some 60, op := Op.load 41 (Operand.tmp 59), type := 41, pos := "ref.go:118", after := #[{ on := 3, ground := Ground.data }], guard := none }) (v := ?_) rfl (by kernel_rfl) (by kernel_rfl) (by kernel_rfl) (fun _ _ _ h => h) (Or.inl ⟨by rfl, ?_⟩) (by assumption) ?_
              rotate_left
              · intro w_ hSw; (try dsimp only at hSw); go_simp; first | done | with_reducible rfl
              try simp only [Act.put, List.setIfInBounds_toArray, List.set_cons_zero, List.set_cons_succ]
              refine wpAnyH_ready (rs := [5, 9]) (by kernel_rfl) (by simp) ?_
              refine AllReadyH.cons (o := { dst := some 61, op := Op.call { callee := Callee.value (Operand.func 71), args := #[Operand.tmp 56, Operand.tmp 60], argTypes := #[25, 41] }, type := 102, pos := "ref.go:118", after := #[{ on := 0, ground := Ground.data }, { on := 4, ground := Ground.data }], guard := none }) rfl (fun K hK => ?_) (AllReadyH.cons (o := { dst := some 14, op := Op.alloc 67, type := 0, pos := "ref.go:118", after := #[], guard := none }) rfl (fun K hK => ?_) (AllReadyH.nil))
              · skip
                go_simp
                go_at_call 71
                refine (says_is HY.out (by repeat (first | exact HBr.out | refine GR.Rd.drewN ?_ _ | refine GR.Rd.drew ?_ | refine GR.Rd.alloc ?_ _)) (by repeat (first | exact HMr.out | refine GR.Rd.drewN ?_ _ | refine GR.Rd.drew ?_ | refine GR.Rd.alloc ?_ _)) NB.out).mono ?_
                rintro e w8 ⟨rfl, hb8⟩
                have hs8 : W8.heap.size ≤ w8.heap.size := (Below.size (bl_then (w := W8) (by repeat (first | exact HR2.out | refine bl_drewN ?_ _ | refine bl_drew ?_ | refine bl_alloc ?_ _)) hb8))
                have N_ := Lib.hid (bl_then (w := W8) (by repeat (first | exact HR2.out | refine bl_drewN ?_ _ | refine bl_drew ?_ | refine bl_alloc ?_ _)) hb8)
                clear HR2
                have HR2 := N_
                clear N_
                clear hb8
                refine hK.out _ _ ?_ (fun hHeld => ?_)
                · exact ⟨(Below.cell (p := ⟨w.heap.size + 1, 0, none⟩) (by repeat (first | exact HR2.out | refine bl_drewN ?_ _ | refine bl_drew ?_ | refine bl_alloc ?_ _ | refine Below.setCell ?_ (by simp; try omega) _)) (World.block_lt_of_cell? W8 _ KB0.out)).trans KB0.out, (Below.cell (p := ⟨w.heap.size + 1, 1, none⟩) (by repeat (first | exact HR2.out | refine bl_drewN ?_ _ | refine bl_drew ?_ | refine bl_alloc ?_ _ | refine Below.setCell ?_ (by simp; try omega) _)) (World.block_lt_of_cell? W8 _ KB1.out)).trans KB1.out, (Below.cell (p := ⟨gd, i * 2, none⟩) (by repeat (first | exact HR2.out | refine bl_drewN ?_ _ | refine bl_drew ?_ | refine bl_alloc ?_ _ | refine Below.setCell ?_ (by simp; try omega) _)) (World.block_lt_of_cell? W8 _ KD0.out)).trans KD0.out, (Below.cell (p := ⟨gd, i * 2 + 1, none⟩) (by repeat (first | exact HR2.out | refine bl_drewN ?_ _ | refine bl_drew ?_ | refine bl_alloc ?_ _ | refine Below.setCell ?_ (by simp; try omega) _)) (World.block_lt_of_cell? W8 _ KD1.out)).trans KD1.out⟩
                clear hK K
                try simp only [Act.put, List.setIfInBounds_toArray, List.set_cons_zero, List.set_cons_succ]
                refine wpAnyH_take (i := 6) (oi := { dst := some 55, op := Op.move (Operand.tmp 61), type := 102, pos := "ref.go:118", after := #[{ on := 5, ground := Ground.data }], guard := none }) (v := ?_) rfl (by kernel_rfl) (by kernel_rfl) (by kernel_rfl) (fun _ _ _ h => h) (Or.inl ⟨by rfl, ?_⟩) (by assumption) ?_
                rotate_left
                · intro w_ hSw; (try dsimp only at hSw); go_simp; first | done | with_reducible rfl
                try simp only [Act.put, List.setIfInBounds_toArray, List.set_cons_zero, List.set_cons_succ]
                refine wpAnyH_take (i := 7) (oi := { dst := some 62, op := Op.extract (Operand.tmp 55) 0, type := 3, pos := "ref.go:118", after := #[{ on := 6, ground := Ground.data }], guard := none }) (v := ?_) rfl (by kernel_rfl) (by kernel_rfl) (by kernel_rfl) (fun _ _ _ h => h) (Or.inl ⟨by rfl, ?_⟩) (by assumption) ?_
                rotate_left
                · intro w_ hSw; (try dsimp only at hSw); go_simp; first | done | with_reducible rfl
                try simp only [Act.put, List.setIfInBounds_toArray, List.set_cons_zero, List.set_cons_succ]
                refine wpAnyH_take (i := 8) (oi := { dst := some 63, op := Op.extract (Operand.tmp 55) 1, type := 67, pos := "ref.go:118", after := #[{ on := 6, ground := Ground.data }, { on := 10, ground := Ground.gcOnly Departure.lateStores }], guard := none }) (v := ?_) rfl (by kernel_rfl) (by kernel_rfl) (by kernel_rfl) (fun _ _ _ h => h) (Or.inl ⟨by rfl, ?_⟩) (by assumption) ?_
                rotate_left
                · intro w_ hSw; (try dsimp only at hSw); go_simp; first | done | with_reducible rfl
                try simp only [Act.put, List.setIfInBounds_toArray, List.set_cons_zero, List.set_cons_succ]
                refine wpAnyH_ready (rs := [9]) (by kernel_rfl) (by simp) ?_
                refine AllReadyH.cons (o := { dst := some 14, op := Op.alloc 67, type := 0, pos := "ref.go:118", after := #[], guard := none }) rfl (fun K hK => ?_) (AllReadyH.nil)
                go_simp
                skip
                refine hK.out _ _ ?_ (fun hHeld => ?_)
                · exact ⟨(Below.cell (p := ⟨w.heap.size + 1, 0, none⟩) (by repeat (first | exact HR2.out | refine bl_drewN ?_ _ | refine bl_drew ?_ | refine bl_alloc ?_ _ | refine Below.setCell ?_ (by simp; try omega) _)) (World.block_lt_of_cell? W8 _ KB0.out)).trans KB0.out, (Below.cell (p := ⟨w.heap.size + 1, 1, none⟩) (by repeat (first | exact HR2.out | refine bl_drewN ?_ _ | refine bl_drew ?_ | refine bl_alloc ?_ _ | refine Below.setCell ?_ (by simp; try omega) _)) (World.block_lt_of_cell? W8 _ KB1.out)).trans KB1.out, (Below.cell (p := ⟨gd, i * 2, none⟩) (by repeat (first | exact HR2.out | refine bl_drewN ?_ _ | refine bl_drew ?_ | refine bl_alloc ?_ _ | refine Below.setCell ?_ (by simp; try omega) _)) (World.block_lt_of_cell? W8 _ KD0.out)).trans KD0.out, (Below.cell (p := ⟨gd, i * 2 + 1, none⟩) (by repeat (first | exact HR2.out | refine bl_drewN ?_ _ | refine bl_drew ?_ | refine bl_alloc ?_ _ | refine Below.setCell ?_ (by simp; try omega) _)) (World.block_lt_of_cell? W8 _ KD1.out)).trans KD1.out⟩
                clear hK K
                try simp only [Act.put, List.setIfInBounds_toArray, List.set_cons_zero, List.set_cons_succ]
                refine wpAnyH_take (i := 10) (oi := { dst := some 13, op := Op.assign (Operand.tmp 62), type := 3, pos := "ref.go:118", after := #[{ on := 7, ground := Ground.data }, { on := 5, ground := Ground.chain }, { on := 0, ground := Ground.phase }, { on := 1, ground := Ground.phase }, { on := 2, ground := Ground.phase }, { on := 3, ground := Ground.phase }, { on := 4, ground := Ground.phase }, { on := 5, ground := Ground.phase }, { on := 6, ground := Ground.phase }, { on := 7, ground := Ground.phase }, { on := 8, ground := Ground.textOnly Departure.lateStores }, { on := 9, ground := Ground.phase }], guard := none }) (v := ?_) rfl (by kernel_rfl) (by kernel_rfl) (by kernel_rfl) (fun _ _ _ h => h) (Or.inl ⟨by rfl, ?_⟩) (by assumption) ?_
                rotate_left
                · intro w_ hSw; (try dsimp only at hSw); go_simp; first | done | with_reducible rfl
                try simp only [Act.put, List.setIfInBounds_toArray, List.set_cons_zero, List.set_cons_succ]
                refine wpAnyH_ready (rs := [11]) (by kernel_rfl) (by simp) ?_
                refine AllReadyH.cons (o := { dst := none, op := Op.store 67 (Operand.tmp 14) (Operand.tmp 63), type := 0, pos := "ref.go:118", after := #[{ on := 9, ground := Ground.data }, { on := 8, ground := Ground.data }, { on := 10, ground := Ground.chain }, { on := 0, ground := Ground.phase }, { on := 1, ground := Ground.phase }, { on := 2, ground := Ground.phase }, { on := 3, ground := Ground.phase }, { on := 4, ground := Ground.phase }, { on := 5, ground := Ground.phase }, { on := 6, ground := Ground.phase }, { on := 7, ground := Ground.phase }, { on := 8, ground := Ground.phase }, { on := 9, ground := Ground.phase }, { on := 10, ground := Ground.phase }], guard := none }) rfl (fun K hK => ?_) (AllReadyH.nil)
                go_simp
                skip
                refine hK.out _ _ ?_ (fun hHeld => ?_)
                · exact ⟨(Below.cell (p := ⟨w.heap.size + 1, 0, none⟩) (by repeat (first | exact HR2.out | refine bl_drewN ?_ _ | refine bl_drew ?_ | refine bl_alloc ?_ _ | refine Below.setCell ?_ (by simp; try omega) _)) (World.block_lt_of_cell? W8 _ KB0.out)).trans KB0.out, (Below.cell (p := ⟨w.heap.size + 1, 1, none⟩) (by repeat (first | exact HR2.out | refine bl_drewN ?_ _ | refine bl_drew ?_ | refine bl_alloc ?_ _ | refine Below.setCell ?_ (by simp; try omega) _)) (World.block_lt_of_cell? W8 _ KB1.out)).trans KB1.out, (Below.cell (p := ⟨gd, i * 2, none⟩) (by repeat (first | exact HR2.out | refine bl_drewN ?_ _ | refine bl_drew ?_ | refine bl_alloc ?_ _ | refine Below.setCell ?_ (by simp; try omega) _)) (World.block_lt_of_cell? W8 _ KD0.out)).trans KD0.out, (Below.cell (p := ⟨gd, i * 2 + 1, none⟩) (by repeat (first | exact HR2.out | refine bl_drewN ?_ _ | refine bl_drew ?_ | refine bl_alloc ?_ _ | refine Below.setCell ?_ (by simp; try omega) _)) (World.block_lt_of_cell? W8 _ KD1.out)).trans KD1.out⟩
                clear hK K
                try simp only [Act.put, List.setIfInBounds_toArray, List.set_cons_zero, List.set_cons_succ]
                refine wpAnyH_done (by kernel_rfl) ?_ _
                clear hHeld
                skip
                obtain ⟨W10, h_⟩ : ∃ W10 : World, W10 = w8.alloc (.cells #[.int .u32 y.d.a, .int .u64 y.d.n, .bool y.gone, .string y.v] 67) := ⟨_, rfl⟩
                rw [← h_]
                obtain ⟨gy, hg_⟩ : ∃ gy : Nat, gy = w8.heap.size := ⟨_, rfl⟩
                have Xgy : Hid (GR.Blk W10 gy 67 #[.int .u32 y.d.a, .int .u64 y.d.n, .bool y.gone, .string y.v]) := Lib.hid (by rw [h_, hg_]; exact GR.Blk.new _ _ _)
                have HW10 : Hid (Below W8.heap.size W8 W10) := Lib.hid (by rw [h_]; exact (by repeat (first | exact HR2.out | refine bl_drewN ?_ _ | refine bl_drew ?_ | refine bl_alloc ?_ _)))
                rw [← hg_]
                have hgy : W8.heap.size ≤ gy := by rw [hg_]; exact hs8
                clear h_ hg_ hs8 HR2
                have XS := Lib.hid (Xgx.out.below HW10.out Xgx.out.lt)
                have XT := Xgy
                have HRc := Lib.hid (below_then HW8.out HW10.out)
                have Lc := Lib.hid (below_then L7.out HRc.out)
                have BGc := Lib.hid (BG.out.below HRc.out hg8)
                have HOc := Lib.hid (ho.out.below HRc.out)
                have OSc := Lib.hid (OS.out.below HRc.out)
                have HDc := Lib.hid (HD.out.below HRc.out)
                clear Xgx Xgy HW8 HW10
                have hgx1 : W1.heap.size ≤ gx := Nat.le_trans L7.out.size hgx
                have ne1 : gx ≠ g8 := by omega
                have ne2 : g8 ≠ gx := by omega
                have e0 : W10.cell? ⟨gx, 0, none⟩ = some (.int .u32 x.d.a) := XS.out.cell 0
                have e1 : W10.cell? ⟨gx, 1, none⟩ = some (.int .u64 x.d.n) := XS.out.cell 1
                have e2 : W10.cell? ⟨gx, 2, none⟩ = some (.bool x.gone) := XS.out.cell 2
                have e3 : W10.cell? ⟨gx, 3, none⟩ = some (.string x.v) := XS.out.cell 3
                have f0 := XS.out.frozen 0
                have f1 := XS.out.frozen 1
                have f2 := XS.out.frozen 2
                have f3 := XS.out.frozen 3
                have y0 : W10.cell? ⟨gy, 0, none⟩ = some (.int .u32 y.d.a) := XT.out.cell 0
                have y1 : W10.cell? ⟨gy, 1, none⟩ = some (.int .u64 y.d.n) := XT.out.cell 1
                have y2 : W10.cell? ⟨gy, 2, none⟩ = some (.bool y.gone) := XT.out.cell 2
                have y3 : W10.cell? ⟨gy, 3, none⟩ = some (.string y.v) := XT.out.cell 3
                have b0 : W10.cell? ⟨g8, 1, none⟩ = some v := BGc.out.cell 1
                have b1 := BGc.out.frozen 1
                have HRW10 := HRc
                have LW10 := Lc
                by_cases h2 : kd = 2
                · subst h2
                  have HJ := Lib.hid (show jpick a b l m P[i] = none by unfold jpick; rw [HX.out, HY.out]; simp)
                  go_wp2
                  go_roundw
                  case rel => exact ⟨i + 1, v, by omega, by go_num, BGc, Lib.hid (by rw [take_none hlt HJ.out, ← HAC.out]; exact HOc.out), OSc, HDc, Lc⟩
                  case measure => simp [intOf]; omega
                · have q0 : (kd == 2) = false := by simpa using h2
                  by_cases m2 : md = 2
                  · subst m2
                    have HJ := Lib.hid (show jpick a b l m P[i] = none by unfold jpick; rw [HX.out, HY.out]; simp)
                    go_wp2
                    go_roundw
                    case rel => exact ⟨i + 1, v, by omega, by go_num, BGc, Lib.hid (by rw [take_none hlt HJ.out, ← HAC.out]; exact HOc.out), OSc, HDc, Lc⟩
                    case measure => simp [intOf]; omega
                  · have q1 : (md == 2) = false := by simpa using m2
                    by_cases k0 : kd = 0
                    · have q2 : (kd == 0) = true := by simpa using k0
                      have HJ := Lib.hid (show jpick a b l m P[i] = some y by unfold jpick; rw [HX.out, HY.out]; simp [k0, m2])
                      have XSS : Hid (GR.Blk ((((W10.setCell ⟨gx, 0, none⟩ (.int .u32 y.d.a)).setCell ⟨gx, 1, none⟩ (.int .u64 y.d.n)).setCell ⟨gx, 2, none⟩ (.bool y.gone)).setCell ⟨gx, 3, none⟩ (.string y.v)) gx 67 #[.int .u32 y.d.a, .int .u64 y.d.n, .bool y.gone, .string y.v]) := Lib.hid (GR.Blk.set_ (GR.Blk.set_ (GR.Blk.set_ (GR.Blk.set_ XS.out 0 _) 1 _) 2 _) 3 _)
                      have b2 : ((((W10.setCell ⟨gx, 0, none⟩ (.int .u32 y.d.a)).setCell ⟨gx, 1, none⟩ (.int .u64 y.d.n)).setCell ⟨gx, 2, none⟩ (.bool y.gone)).setCell ⟨gx, 3, none⟩ (.string y.v)).cell? ⟨g8, 1, none⟩ = some v := (set4_far _ _ _ _ _ _ (q := ⟨g8, 1, none⟩) ne2).trans b0
                      have HRs : Hid (Below wr.heap.size wr ((((W10.setCell ⟨gx, 0, none⟩ (.int .u32 y.d.a)).setCell ⟨gx, 1, none⟩ (.int .u64 y.d.n)).setCell ⟨gx, 2, none⟩ (.bool y.gone)).setCell ⟨gx, 3, none⟩ (.string y.v))) := Lib.hid (Below.setCell (Below.setCell (Below.setCell (Below.setCell HRW10.out hgx _) hgx _) hgx _) hgx _)
                      have Ls : Hid (Below W1.heap.size W1 ((((W10.setCell ⟨gx, 0, none⟩ (.int .u32 y.d.a)).setCell ⟨gx, 1, none⟩ (.int .u64 y.d.n)).setCell ⟨gx, 2, none⟩ (.bool y.gone)).setCell ⟨gx, 3, none⟩ (.string y.v))) := Lib.hid (Below.setCell (Below.setCell (Below.setCell (Below.setCell LW10.out hgx1 _) hgx1 _) hgx1 _) hgx1 _)
                      have z0 : ((((W10.setCell ⟨gx, 0, none⟩ (.int .u32 y.d.a)).setCell ⟨gx, 1, none⟩ (.int .u64 y.d.n)).setCell ⟨gx, 2, none⟩ (.bool y.gone)).setCell ⟨gx, 3, none⟩ (.string y.v)).cell? ⟨gx, 0, none⟩ = some (.int .u32 y.d.a) := XSS.out.cell 0
                      have z1 : ((((W10.setCell ⟨gx, 0, none⟩ (.int .u32 y.d.a)).setCell ⟨gx, 1, none⟩ (.int .u64 y.d.n)).setCell ⟨gx, 2, none⟩ (.bool y.gone)).setCell ⟨gx, 3, none⟩ (.string y.v)).cell? ⟨gx, 1, none⟩ = some (.int .u64 y.d.n) := XSS.out.cell 1
                      have z2 : ((((W10.setCell ⟨gx, 0, none⟩ (.int .u32 y.d.a)).setCell ⟨gx, 1, none⟩ (.int .u64 y.d.n)).setCell ⟨gx, 2, none⟩ (.bool y.gone)).setCell ⟨gx, 3, none⟩ (.string y.v)).cell? ⟨gx, 2, none⟩ = some (.bool y.gone) := XSS.out.cell 2
                      have z3 : ((((W10.setCell ⟨gx, 0, none⟩ (.int .u32 y.d.a)).setCell ⟨gx, 1, none⟩ (.int .u64 y.d.n)).setCell ⟨gx, 2, none⟩ (.bool y.gone)).setCell ⟨gx, 3, none⟩ (.string y.v)).cell? ⟨gx, 3, none⟩ = some (.string y.v) := XSS.out.cell 3
                      go_wp2_with (at_builtin; obtain ⟨W12, hW12⟩ : ∃ W12 : World, W12 = (((W10.setCell ⟨gx, 0, none⟩ (.int .u32 y.d.a)).setCell ⟨gx, 1, none⟩ (.int .u64 y.d.n)).setCell ⟨gx, 2, none⟩ (.bool y.gone)).setCell ⟨gx, 3, none⟩ (.string y.v) := ⟨_, rfl⟩; rw [← hW12] at HRs Ls ⊢; have hs12 : W12.heap.size = W10.heap.size := (by rw [hW12]; simp [World.setCell]); have HRa := Lib.hid (bl_alloc HRs.out (.cells #[.int .u32 y.d.a, .int .u64 y.d.n, .bool y.gone, .string y.v] 67)); have La := Lib.hid (bl_alloc Ls.out (.cells #[.int .u32 y.d.a, .int .u64 y.d.n, .bool y.gone, .string y.v] 67)); refine GR.app_all (K := sibK) rfl (.tmp 83) (.tmp 85) _ rfl Try.underlying23 hi0 hz0 hz1 hz2 rfl W1.heap.size _ acc rfl (GR.Own.below ho.out HRa.out) _ 1 1 [y] rfl rfl (GR.rd_new _ hs12 (by show 40 ≤ 140737488355328; omega)) (by show (acc.length + 1) * 40 ≤ _; have := HAL.out; omega) (Below.size La.out) ?_; intro v9_ w9 ho9 hg9 hat9; obtain ⟨A9, n9, c9, rfl⟩ := own_slice ho9 (by show (acc ++ [y]).length * 40 ≤ _; rw [List.length_append]; have := HAL.out; simp; omega); obtain ⟨v9, hv9⟩ : ∃ v9, v9 = Value.slice A9 n9 c9 := ⟨_, rfl⟩; rw [← hv9] at ho9; have B9 := Lib.hid (GR.Blk.grown (GR.Blk.below BG.out HRa.out hg8) hg9 (Ne.symm (GR.own_blk_ne (GR.Own.below ho.out HRa.out) (GR.Blk.below BG.out HRa.out hg8) (by decide)))); have O9 := Lib.hid (own_far1 (j := 1) ho9 B9.out v9 (by decide)); have OS9 := Lib.hid (own_far1 (j := 1) ((GR.Own.below OS.out HRa.out).grown hg9 (own_apart (GR.Own.below OS.out HRa.out) (GR.Own.below ho.out HRa.out) (by decide))) B9.out v9 (by decide)); have HD9 := Lib.hid (own_far1 (j := 1) ((GR.Own.below HD.out HRa.out).grown hg9 (own_apart (GR.Own.below HD.out HRa.out) (GR.Own.below ho.out HRa.out) (by decide))) B9.out v9 (by decide)); have L9 := Lib.hid (Below.setCell (p := ⟨g8, 1, none⟩) (Below.grown La.out hg9 (Below.size La.out) (fun b hb => ((GR.Own.below ho.out HRa.out).lt b hb).1)) g5 v9); have p0 : w9.cell? ⟨g8, 1, none⟩ = some v := B9.out.cell 1; have p1 := B9.out.frozen 1; subst hv9; clear ho9 hg9 hat9)
                      go_roundw
                      case rel => exact ⟨i + 1, _, by omega, by go_num, Lib.hid (B9.out.set_ 1 _), Lib.hid (by rw [take_some hlt HJ.out, ← HAC.out]; exact O9.out), OS9, HD9, L9⟩
                      case measure => simp [intOf]; omega
                    · have q2 : (kd == 0) = false := by simpa using k0
                      by_cases m1 : md = 1
                      · have q3 : (md == 1) = true := by simpa using m1
                        cases hle : lesB y x with
                        | true =>
                          have HJ := Lib.hid (show jpick a b l m P[i] = some y by unfold jpick; rw [HX.out, HY.out]; simp [h2, m1, hle])
                          go_wp2_with fail
                          refine (refLes_x y x _).mono ?_
                          rintro e w11 ⟨rfl, hb11⟩
                          rw [hle]
                          have HRw11 := Lib.hid (below_then HRc.out hb11)
                          have Lw11 := Lib.hid (below_then Lc.out hb11)
                          have XS11 := Lib.hid (XS.out.below hb11 XS.out.lt)
                          have XT11 := Lib.hid (XT.out.below hb11 XT.out.lt)
                          have BG11 := Lib.hid (BGc.out.below hb11 BGc.out.lt)
                          clear hb11 e0 e1 e2 e3 f0 f1 f2 f3 y0 y1 y2 y3 b0 b1
                          have e0 : w11.cell? ⟨gx, 0, none⟩ = some (.int .u32 x.d.a) := XS11.out.cell 0
                          have e1 : w11.cell? ⟨gx, 1, none⟩ = some (.int .u64 x.d.n) := XS11.out.cell 1
                          have e2 : w11.cell? ⟨gx, 2, none⟩ = some (.bool x.gone) := XS11.out.cell 2
                          have e3 : w11.cell? ⟨gx, 3, none⟩ = some (.string x.v) := XS11.out.cell 3
                          have f0 := XS11.out.frozen 0
                          have f1 := XS11.out.frozen 1
                          have f2 := XS11.out.frozen 2
                          have f3 := XS11.out.frozen 3
                          have y0 : w11.cell? ⟨gy, 0, none⟩ = some (.int .u32 y.d.a) := XT11.out.cell 0
                          have y1 : w11.cell? ⟨gy, 1, none⟩ = some (.int .u64 y.d.n) := XT11.out.cell 1
                          have y2 : w11.cell? ⟨gy, 2, none⟩ = some (.bool y.gone) := XT11.out.cell 2
                          have y3 : w11.cell? ⟨gy, 3, none⟩ = some (.string y.v) := XT11.out.cell 3
                          have b0 : w11.cell? ⟨g8, 1, none⟩ = some v := BG11.out.cell 1
                          have b1 := BG11.out.frozen 1
                          have XSS : Hid (GR.Blk ((((w11.setCell ⟨gx, 0, none⟩ (.int .u32 y.d.a)).setCell ⟨gx, 1, none⟩ (.int .u64 y.d.n)).setCell ⟨gx, 2, none⟩ (.bool y.gone)).setCell ⟨gx, 3, none⟩ (.string y.v)) gx 67 #[.int .u32 y.d.a, .int .u64 y.d.n, .bool y.gone, .string y.v]) := Lib.hid (GR.Blk.set_ (GR.Blk.set_ (GR.Blk.set_ (GR.Blk.set_ XS11.out 0 _) 1 _) 2 _) 3 _)
                          have b2 : ((((w11.setCell ⟨gx, 0, none⟩ (.int .u32 y.d.a)).setCell ⟨gx, 1, none⟩ (.int .u64 y.d.n)).setCell ⟨gx, 2, none⟩ (.bool y.gone)).setCell ⟨gx, 3, none⟩ (.string y.v)).cell? ⟨g8, 1, none⟩ = some v := (set4_far _ _ _ _ _ _ (q := ⟨g8, 1, none⟩) ne2).trans b0
                          have HRs : Hid (Below wr.heap.size wr ((((w11.setCell ⟨gx, 0, none⟩ (.int .u32 y.d.a)).setCell ⟨gx, 1, none⟩ (.int .u64 y.d.n)).setCell ⟨gx, 2, none⟩ (.bool y.gone)).setCell ⟨gx, 3, none⟩ (.string y.v))) := Lib.hid (Below.setCell (Below.setCell (Below.setCell (Below.setCell HRw11.out hgx _) hgx _) hgx _) hgx _)
                          have Ls : Hid (Below W1.heap.size W1 ((((w11.setCell ⟨gx, 0, none⟩ (.int .u32 y.d.a)).setCell ⟨gx, 1, none⟩ (.int .u64 y.d.n)).setCell ⟨gx, 2, none⟩ (.bool y.gone)).setCell ⟨gx, 3, none⟩ (.string y.v))) := Lib.hid (Below.setCell (Below.setCell (Below.setCell (Below.setCell Lw11.out hgx1 _) hgx1 _) hgx1 _) hgx1 _)
                          have z0 : ((((w11.setCell ⟨gx, 0, none⟩ (.int .u32 y.d.a)).setCell ⟨gx, 1, none⟩ (.int .u64 y.d.n)).setCell ⟨gx, 2, none⟩ (.bool y.gone)).setCell ⟨gx, 3, none⟩ (.string y.v)).cell? ⟨gx, 0, none⟩ = some (.int .u32 y.d.a) := XSS.out.cell 0
                          have z1 : ((((w11.setCell ⟨gx, 0, none⟩ (.int .u32 y.d.a)).setCell ⟨gx, 1, none⟩ (.int .u64 y.d.n)).setCell ⟨gx, 2, none⟩ (.bool y.gone)).setCell ⟨gx, 3, none⟩ (.string y.v)).cell? ⟨gx, 1, none⟩ = some (.int .u64 y.d.n) := XSS.out.cell 1
                          have z2 : ((((w11.setCell ⟨gx, 0, none⟩ (.int .u32 y.d.a)).setCell ⟨gx, 1, none⟩ (.int .u64 y.d.n)).setCell ⟨gx, 2, none⟩ (.bool y.gone)).setCell ⟨gx, 3, none⟩ (.string y.v)).cell? ⟨gx, 2, none⟩ = some (.bool y.gone) := XSS.out.cell 2
                          have z3 : ((((w11.setCell ⟨gx, 0, none⟩ (.int .u32 y.d.a)).setCell ⟨gx, 1, none⟩ (.int .u64 y.d.n)).setCell ⟨gx, 2, none⟩ (.bool y.gone)).setCell ⟨gx, 3, none⟩ (.string y.v)).cell? ⟨gx, 3, none⟩ = some (.string y.v) := XSS.out.cell 3
                          go_wp2_with (at_builtin; obtain ⟨W12, hW12⟩ : ∃ W12 : World, W12 = (((w11.setCell ⟨gx, 0, none⟩ (.int .u32 y.d.a)).setCell ⟨gx, 1, none⟩ (.int .u64 y.d.n)).setCell ⟨gx, 2, none⟩ (.bool y.gone)).setCell ⟨gx, 3, none⟩ (.string y.v) := ⟨_, rfl⟩; rw [← hW12] at HRs Ls ⊢; have hs12 : W12.heap.size = w11.heap.size := (by rw [hW12]; simp [World.setCell]); have HRa := Lib.hid (bl_alloc HRs.out (.cells #[.int .u32 y.d.a, .int .u64 y.d.n, .bool y.gone, .string y.v] 67)); have La := Lib.hid (bl_alloc Ls.out (.cells #[.int .u32 y.d.a, .int .u64 y.d.n, .bool y.gone, .string y.v] 67)); refine GR.app_all (K := sibK) rfl (.tmp 83) (.tmp 85) _ rfl Try.underlying23 hi0 hz0 hz1 hz2 rfl W1.heap.size _ acc rfl (GR.Own.below ho.out HRa.out) _ 1 1 [y] rfl rfl (GR.rd_new _ hs12 (by show 40 ≤ 140737488355328; omega)) (by show (acc.length + 1) * 40 ≤ _; have := HAL.out; omega) (Below.size La.out) ?_; intro v9_ w9 ho9 hg9 hat9; obtain ⟨A9, n9, c9, rfl⟩ := own_slice ho9 (by show (acc ++ [y]).length * 40 ≤ _; rw [List.length_append]; have := HAL.out; simp; omega); obtain ⟨v9, hv9⟩ : ∃ v9, v9 = Value.slice A9 n9 c9 := ⟨_, rfl⟩; rw [← hv9] at ho9; have B9 := Lib.hid (GR.Blk.grown (GR.Blk.below BG.out HRa.out hg8) hg9 (Ne.symm (GR.own_blk_ne (GR.Own.below ho.out HRa.out) (GR.Blk.below BG.out HRa.out hg8) (by decide)))); have O9 := Lib.hid (own_far1 (j := 1) ho9 B9.out v9 (by decide)); have OS9 := Lib.hid (own_far1 (j := 1) ((GR.Own.below OS.out HRa.out).grown hg9 (own_apart (GR.Own.below OS.out HRa.out) (GR.Own.below ho.out HRa.out) (by decide))) B9.out v9 (by decide)); have HD9 := Lib.hid (own_far1 (j := 1) ((GR.Own.below HD.out HRa.out).grown hg9 (own_apart (GR.Own.below HD.out HRa.out) (GR.Own.below ho.out HRa.out) (by decide))) B9.out v9 (by decide)); have L9 := Lib.hid (Below.setCell (p := ⟨g8, 1, none⟩) (Below.grown La.out hg9 (Below.size La.out) (fun b hb => ((GR.Own.below ho.out HRa.out).lt b hb).1)) g5 v9); have p0 : w9.cell? ⟨g8, 1, none⟩ = some v := B9.out.cell 1; have p1 := B9.out.frozen 1; subst hv9; clear ho9 hg9 hat9)
                          go_roundw
                          case rel => exact ⟨i + 1, _, by omega, by go_num, Lib.hid (B9.out.set_ 1 _), Lib.hid (by rw [take_some hlt HJ.out, ← HAC.out]; exact O9.out), OS9, HD9, L9⟩
                          case measure => simp [intOf]; omega
                        | false =>
                          have HJ := Lib.hid (show jpick a b l m P[i] = some x by unfold jpick; rw [HX.out, HY.out]; simp [h2, k0, m1, hle])
                          go_wp2_with fail
                          refine (refLes_x y x _).mono ?_
                          rintro e w11 ⟨rfl, hb11⟩
                          rw [hle]
                          have HRw11 := Lib.hid (below_then HRc.out hb11)
                          have Lw11 := Lib.hid (below_then Lc.out hb11)
                          have XS11 := Lib.hid (XS.out.below hb11 XS.out.lt)
                          have XT11 := Lib.hid (XT.out.below hb11 XT.out.lt)
                          have BG11 := Lib.hid (BGc.out.below hb11 BGc.out.lt)
                          clear hb11 e0 e1 e2 e3 f0 f1 f2 f3 y0 y1 y2 y3 b0 b1
                          have e0 : w11.cell? ⟨gx, 0, none⟩ = some (.int .u32 x.d.a) := XS11.out.cell 0
                          have e1 : w11.cell? ⟨gx, 1, none⟩ = some (.int .u64 x.d.n) := XS11.out.cell 1
                          have e2 : w11.cell? ⟨gx, 2, none⟩ = some (.bool x.gone) := XS11.out.cell 2
                          have e3 : w11.cell? ⟨gx, 3, none⟩ = some (.string x.v) := XS11.out.cell 3
                          have f0 := XS11.out.frozen 0
                          have f1 := XS11.out.frozen 1
                          have f2 := XS11.out.frozen 2
                          have f3 := XS11.out.frozen 3
                          have y0 : w11.cell? ⟨gy, 0, none⟩ = some (.int .u32 y.d.a) := XT11.out.cell 0
                          have y1 : w11.cell? ⟨gy, 1, none⟩ = some (.int .u64 y.d.n) := XT11.out.cell 1
                          have y2 : w11.cell? ⟨gy, 2, none⟩ = some (.bool y.gone) := XT11.out.cell 2
                          have y3 : w11.cell? ⟨gy, 3, none⟩ = some (.string y.v) := XT11.out.cell 3
                          have b0 : w11.cell? ⟨g8, 1, none⟩ = some v := BG11.out.cell 1
                          have b1 := BG11.out.frozen 1
                          go_wp2_with (at_builtin; refine GR.app_one (K := sibK) rfl (.tmp 83) (.tmp 85) _ rfl Try.underlying23 hi0 hz0 hz1 hz2 rfl W1.heap.size _ acc x rfl (GR.Own.below ho.out HRw11.out) rfl (by show (acc.length + 1) * 40 ≤ _; have := HAL.out; omega) (Below.size Lw11.out) ?_; intro v9_ w9 ho9 hg9 hat9; obtain ⟨A9, n9, c9, rfl⟩ := own_slice ho9 (by show (acc ++ [x]).length * 40 ≤ _; rw [List.length_append]; have := HAL.out; simp; omega); obtain ⟨v9, hv9⟩ : ∃ v9, v9 = Value.slice A9 n9 c9 := ⟨_, rfl⟩; rw [← hv9] at ho9; have B9 := Lib.hid (GR.Blk.grown (GR.Blk.below BG.out HRw11.out hg8) hg9 (Ne.symm (GR.own_blk_ne (GR.Own.below ho.out HRw11.out) (GR.Blk.below BG.out HRw11.out hg8) (by decide)))); have O9 := Lib.hid (own_far1 (j := 1) ho9 B9.out v9 (by decide)); have OS9 := Lib.hid (own_far1 (j := 1) ((GR.Own.below OS.out HRw11.out).grown hg9 (own_apart (GR.Own.below OS.out HRw11.out) (GR.Own.below ho.out HRw11.out) (by decide))) B9.out v9 (by decide)); have HD9 := Lib.hid (own_far1 (j := 1) ((GR.Own.below HD.out HRw11.out).grown hg9 (own_apart (GR.Own.below HD.out HRw11.out) (GR.Own.below ho.out HRw11.out) (by decide))) B9.out v9 (by decide)); have L9 := Lib.hid (Below.setCell (p := ⟨g8, 1, none⟩) (Below.grown Lw11.out hg9 (Below.size Lw11.out) (fun b hb => ((GR.Own.below ho.out HRw11.out).lt b hb).1)) g5 v9); have p0 : w9.cell? ⟨g8, 1, none⟩ = some v := B9.out.cell 1; have p1 := B9.out.frozen 1; subst hv9; clear ho9 hg9 hat9)
                          go_roundw
                          case rel => exact ⟨i + 1, _, by omega, by go_num, Lib.hid (B9.out.set_ 1 _), Lib.hid (by rw [take_some hlt HJ.out, ← HAC.out]; exact O9.out), OS9, HD9, L9⟩
                          case measure => simp [intOf]; omega
                      · have q3 : (md == 1) = false := by simpa using m1
                        have HJ := Lib.hid (show jpick a b l m P[i] = some x by unfold jpick; rw [HX.out, HY.out]; simp [h2, m2, k0, m1])
                        go_wp2_with (at_builtin; refine GR.app_one (K := sibK) rfl (.tmp 83) (.tmp 85) _ rfl Try.underlying23 hi0 hz0 hz1 hz2 rfl W1.heap.size _ acc x rfl (GR.Own.below ho.out HRW10.out) rfl (by show (acc.length + 1) * 40 ≤ _; have := HAL.out; omega) (Below.size LW10.out) ?_; intro v9_ w9 ho9 hg9 hat9; obtain ⟨A9, n9, c9, rfl⟩ := own_slice ho9 (by show (acc ++ [x]).length * 40 ≤ _; rw [List.length_append]; have := HAL.out; simp; omega); obtain ⟨v9, hv9⟩ : ∃ v9, v9 = Value.slice A9 n9 c9 := ⟨_, rfl⟩; rw [← hv9] at ho9; have B9 := Lib.hid (GR.Blk.grown (GR.Blk.below BG.out HRW10.out hg8) hg9 (Ne.symm (GR.own_blk_ne (GR.Own.below ho.out HRW10.out) (GR.Blk.below BG.out HRW10.out hg8) (by decide)))); have O9 := Lib.hid (own_far1 (j := 1) ho9 B9.out v9 (by decide)); have OS9 := Lib.hid (own_far1 (j := 1) ((GR.Own.below OS.out HRW10.out).grown hg9 (own_apart (GR.Own.below OS.out HRW10.out) (GR.Own.below ho.out HRW10.out) (by decide))) B9.out v9 (by decide)); have HD9 := Lib.hid (own_far1 (j := 1) ((GR.Own.below HD.out HRW10.out).grown hg9 (own_apart (GR.Own.below HD.out HRW10.out) (GR.Own.below ho.out HRW10.out) (by decide))) B9.out v9 (by decide)); have L9 := Lib.hid (Below.setCell (p := ⟨g8, 1, none⟩) (Below.grown LW10.out hg9 (Below.size LW10.out) (fun b hb => ((GR.Own.below ho.out HRW10.out).lt b hb).1)) g5 v9); have p0 : w9.cell? ⟨g8, 1, none⟩ = some v := B9.out.cell 1; have p1 := B9.out.frozen 1; subst hv9; clear ho9 hg9 hat9)
                        go_roundw
                        case rel => exact ⟨i + 1, _, by omega, by go_num, Lib.hid (B9.out.set_ 1 _), Lib.hid (by rw [take_some hlt HJ.out, ← HAC.out]; exact O9.out), OS9, HD9, L9⟩
                        case measure => simp [intOf]; omega
              · skip
                go_simp
                skip
                refine hK.out _ _ ?_ (fun hHeld => ?_)
                · exact ⟨(Below.cell (p := ⟨w.heap.size + 1, 0, none⟩) (by repeat (first | exact HR2.out | refine bl_drewN ?_ _ | refine bl_drew ?_ | refine bl_alloc ?_ _ | refine Below.setCell ?_ (by simp; try omega) _)) (World.block_lt_of_cell? W8 _ KB0.out)).trans KB0.out, (Below.cell (p := ⟨w.heap.size + 1, 1, none⟩) (by repeat (first | exact HR2.out | refine bl_drewN ?_ _ | refine bl_drew ?_ | refine bl_alloc ?_ _ | refine Below.setCell ?_ (by simp; try omega) _)) (World.block_lt_of_cell? W8 _ KB1.out)).trans KB1.out, (Below.cell (p := ⟨gd, i * 2, none⟩) (by repeat (first | exact HR2.out | refine bl_drewN ?_ _ | refine bl_drew ?_ | refine bl_alloc ?_ _ | refine Below.setCell ?_ (by simp; try omega) _)) (World.block_lt_of_cell? W8 _ KD0.out)).trans KD0.out, (Below.cell (p := ⟨gd, i * 2 + 1, none⟩) (by repeat (first | exact HR2.out | refine bl_drewN ?_ _ | refine bl_drew ?_ | refine bl_alloc ?_ _ | refine Below.setCell ?_ (by simp; try omega) _)) (World.block_lt_of_cell? W8 _ KD1.out)).trans KD1.out⟩
                clear hK K
                try simp only [Act.put, List.setIfInBounds_toArray, List.set_cons_zero, List.set_cons_succ]
                refine wpAnyH_ready (rs := [5]) (by kernel_rfl) (by simp) ?_
                refine AllReadyH.cons (o := { dst := some 61, op := Op.call { callee := Callee.value (Operand.func 71), args := #[Operand.tmp 56, Operand.tmp 60], argTypes := #[25, 41] }, type := 102, pos := "ref.go:118", after := #[{ on := 0, ground := Ground.data }, { on := 4, ground := Ground.data }], guard := none }) rfl (fun K hK => ?_) (AllReadyH.nil)
                go_simp
                go_at_call 71
                refine (says_is HY.out (by repeat (first | exact HBr.out | refine GR.Rd.drewN ?_ _ | refine GR.Rd.drew ?_ | refine GR.Rd.alloc ?_ _)) (by repeat (first | exact HMr.out | refine GR.Rd.drewN ?_ _ | refine GR.Rd.drew ?_ | refine GR.Rd.alloc ?_ _)) NB.out).mono ?_
                rintro e w8 ⟨rfl, hb8⟩
                have hs8 : W8.heap.size ≤ w8.heap.size := (Below.size (bl_then (w := W8) (by repeat (first | exact HR2.out | refine bl_drewN ?_ _ | refine bl_drew ?_ | refine bl_alloc ?_ _)) hb8))
                have N_ := Lib.hid (bl_then (w := W8) (by repeat (first | exact HR2.out | refine bl_drewN ?_ _ | refine bl_drew ?_ | refine bl_alloc ?_ _)) hb8)
                clear HR2
                have HR2 := N_
                clear N_
                have XG8 : Hid (GR.Blk w8 W8.heap.size 67 #[.int .u32 0, .int .u64 0, .bool false, .string ⟨#[]⟩]) := Lib.hid (by refine GR.Blk.below ?_ hb8 ?_; exact new_at _ _ _ (by simp); simp)
                have e0 := XG8.out.cell 0
                have e1 := XG8.out.cell 1
                have e2 := XG8.out.cell 2
                have e3 := XG8.out.cell 3
                have f0 := XG8.out.frozen 0
                have f1 := XG8.out.frozen 1
                have f2 := XG8.out.frozen 2
                have f3 := XG8.out.frozen 3
                clear hb8
                refine hK.out _ _ ?_ (fun hHeld => ?_)
                · exact ⟨(Below.cell (p := ⟨w.heap.size + 1, 0, none⟩) (by repeat (first | exact HR2.out | refine bl_drewN ?_ _ | refine bl_drew ?_ | refine bl_alloc ?_ _ | refine Below.setCell ?_ (by simp; try omega) _)) (World.block_lt_of_cell? W8 _ KB0.out)).trans KB0.out, (Below.cell (p := ⟨w.heap.size + 1, 1, none⟩) (by repeat (first | exact HR2.out | refine bl_drewN ?_ _ | refine bl_drew ?_ | refine bl_alloc ?_ _ | refine Below.setCell ?_ (by simp; try omega) _)) (World.block_lt_of_cell? W8 _ KB1.out)).trans KB1.out, (Below.cell (p := ⟨gd, i * 2, none⟩) (by repeat (first | exact HR2.out | refine bl_drewN ?_ _ | refine bl_drew ?_ | refine bl_alloc ?_ _ | refine Below.setCell ?_ (by simp; try omega) _)) (World.block_lt_of_cell? W8 _ KD0.out)).trans KD0.out, (Below.cell (p := ⟨gd, i * 2 + 1, none⟩) (by repeat (first | exact HR2.out | refine bl_drewN ?_ _ | refine bl_drew ?_ | refine bl_alloc ?_ _ | refine Below.setCell ?_ (by simp; try omega) _)) (World.block_lt_of_cell? W8 _ KD1.out)).trans KD1.out⟩
                clear hK K
                try simp only [Act.put, List.setIfInBounds_toArray, List.set_cons_zero, List.set_cons_succ]
                refine wpAnyH_take (i := 6) (oi := { dst := some 55, op := Op.move (Operand.tmp 61), type := 102, pos := "ref.go:118", after := #[{ on := 5, ground := Ground.data }], guard := none }) (v := ?_) rfl (by kernel_rfl) (by kernel_rfl) (by kernel_rfl) (fun _ _ _ h => h) (Or.inl ⟨by rfl, ?_⟩) (by assumption) ?_
                rotate_left
                · intro w_ hSw; (try dsimp only at hSw); go_simp; first | done | with_reducible rfl
                try simp only [Act.put, List.setIfInBounds_toArray, List.set_cons_zero, List.set_cons_succ]
                refine wpAnyH_take (i := 7) (oi := { dst := some 62, op := Op.extract (Operand.tmp 55) 0, type := 3, pos := "ref.go:118", after := #[{ on := 6, ground := Ground.data }], guard := none }) (v := ?_) rfl (by kernel_rfl) (by kernel_rfl) (by kernel_rfl) (fun _ _ _ h => h) (Or.inl ⟨by rfl, ?_⟩) (by assumption) ?_
                rotate_left
                · intro w_ hSw; (try dsimp only at hSw); go_simp; first | done | with_reducible rfl
                try simp only [Act.put, List.setIfInBounds_toArray, List.set_cons_zero, List.set_cons_succ]
                refine wpAnyH_take (i := 8) (oi := { dst := some 63, op := Op.extract (Operand.tmp 55) 1, type := 67, pos := "ref.go:118", after := #[{ on := 6, ground := Ground.data }, { on := 10, ground := Ground.gcOnly Departure.lateStores }], guard := none }) (v := ?_) rfl (by kernel_rfl) (by kernel_rfl) (by kernel_rfl) (fun _ _ _ h => h) (Or.inl ⟨by rfl, ?_⟩) (by assumption) ?_
                rotate_left
                · intro w_ hSw; (try dsimp only at hSw); go_simp; first | done | with_reducible rfl
                try simp only [Act.put, List.setIfInBounds_toArray, List.set_cons_zero, List.set_cons_succ]
                refine wpAnyH_take (i := 10) (oi := { dst := some 13, op := Op.assign (Operand.tmp 62), type := 3, pos := "ref.go:118", after := #[{ on := 7, ground := Ground.data }, { on := 5, ground := Ground.chain }, { on := 0, ground := Ground.phase }, { on := 1, ground := Ground.phase }, { on := 2, ground := Ground.phase }, { on := 3, ground := Ground.phase }, { on := 4, ground := Ground.phase }, { on := 5, ground := Ground.phase }, { on := 6, ground := Ground.phase }, { on := 7, ground := Ground.phase }, { on := 8, ground := Ground.textOnly Departure.lateStores }, { on := 9, ground := Ground.phase }], guard := none }) (v := ?_) rfl (by kernel_rfl) (by kernel_rfl) (by kernel_rfl) (fun _ _ _ h => h) (Or.inl ⟨by rfl, ?_⟩) (by assumption) ?_
                rotate_left
                · intro w_ hSw; (try dsimp only at hSw); go_simp; first | done | with_reducible rfl
                try simp only [Act.put, List.setIfInBounds_toArray, List.set_cons_zero, List.set_cons_succ]
                refine wpAnyH_ready (rs := [11]) (by kernel_rfl) (by simp) ?_
                refine AllReadyH.cons (o := { dst := none, op := Op.store 67 (Operand.tmp 14) (Operand.tmp 63), type := 0, pos := "ref.go:118", after := #[{ on := 9, ground := Ground.data }, { on := 8, ground := Ground.data }, { on := 10, ground := Ground.chain }, { on := 0, ground := Ground.phase }, { on := 1, ground := Ground.phase }, { on := 2, ground := Ground.phase }, { on := 3, ground := Ground.phase }, { on := 4, ground := Ground.phase }, { on := 5, ground := Ground.phase }, { on := 6, ground := Ground.phase }, { on := 7, ground := Ground.phase }, { on := 8, ground := Ground.phase }, { on := 9, ground := Ground.phase }, { on := 10, ground := Ground.phase }], guard := none }) rfl (fun K hK => ?_) (AllReadyH.nil)
                go_simp
                skip
                refine hK.out _ _ ?_ (fun hHeld => ?_)
                · exact ⟨(Below.cell (p := ⟨w.heap.size + 1, 0, none⟩) (by repeat (first | exact HR2.out | refine bl_drewN ?_ _ | refine bl_drew ?_ | refine bl_alloc ?_ _ | refine Below.setCell ?_ (by simp; try omega) _)) (World.block_lt_of_cell? W8 _ KB0.out)).trans KB0.out, (Below.cell (p := ⟨w.heap.size + 1, 1, none⟩) (by repeat (first | exact HR2.out | refine bl_drewN ?_ _ | refine bl_drew ?_ | refine bl_alloc ?_ _ | refine Below.setCell ?_ (by simp; try omega) _)) (World.block_lt_of_cell? W8 _ KB1.out)).trans KB1.out, (Below.cell (p := ⟨gd, i * 2, none⟩) (by repeat (first | exact HR2.out | refine bl_drewN ?_ _ | refine bl_drew ?_ | refine bl_alloc ?_ _ | refine Below.setCell ?_ (by simp; try omega) _)) (World.block_lt_of_cell? W8 _ KD0.out)).trans KD0.out, (Below.cell (p := ⟨gd, i * 2 + 1, none⟩) (by repeat (first | exact HR2.out | refine bl_drewN ?_ _ | refine bl_drew ?_ | refine bl_alloc ?_ _ | refine Below.setCell ?_ (by simp; try omega) _)) (World.block_lt_of_cell? W8 _ KD1.out)).trans KD1.out⟩
                clear hK K
                try simp only [Act.put, List.setIfInBounds_toArray, List.set_cons_zero, List.set_cons_succ]
                refine wpAnyH_done (by kernel_rfl) ?_ _
                clear hHeld
                clear e0 e1 e2 e3 f0 f1 f2 f3
                obtain ⟨W10, h_⟩ : ∃ W10 : World, W10 = (((w8.setCell ⟨W8.heap.size, 0, none⟩ (.int .u32 y.d.a)).setCell ⟨W8.heap.size, 1, none⟩ (.int .u64 y.d.n)).setCell ⟨W8.heap.size, 2, none⟩ (.bool y.gone)).setCell ⟨W8.heap.size, 3, none⟩ (.string y.v) := ⟨_, rfl⟩
                rw [← h_]
                obtain ⟨gy, hg_⟩ : ∃ gy : Nat, gy = W8.heap.size := ⟨_, rfl⟩
                have Xgy : Hid (GR.Blk W10 gy 67 #[.int .u32 y.d.a, .int .u64 y.d.n, .bool y.gone, .string y.v]) := Lib.hid (by rw [h_, hg_]; exact GR.Blk.set_ (GR.Blk.set_ (GR.Blk.set_ (GR.Blk.set_ XG8.out 0 _) 1 _) 2 _) 3 _)
                have HW10 : Hid (Below W8.heap.size W8 W10) := Lib.hid (by rw [h_]; exact (by repeat (first | exact HR2.out | refine Below.setCell ?_ (by simp) _)))
                rw [← hg_]
                have hgy : W8.heap.size ≤ gy := by rw [hg_]; exact Nat.le_refl _
                clear h_ hg_ hs8 HR2 XG8
                have XS := Lib.hid (Xgx.out.below HW10.out Xgx.out.lt)
                have XT := Xgy
                have HRc := Lib.hid (below_then HW8.out HW10.out)
                have Lc := Lib.hid (below_then L7.out HRc.out)
                have BGc := Lib.hid (BG.out.below HRc.out hg8)
                have HOc := Lib.hid (ho.out.below HRc.out)
                have OSc := Lib.hid (OS.out.below HRc.out)
                have HDc := Lib.hid (HD.out.below HRc.out)
                clear Xgx Xgy HW8 HW10
                have hgx1 : W1.heap.size ≤ gx := Nat.le_trans L7.out.size hgx
                have ne1 : gx ≠ g8 := by omega
                have ne2 : g8 ≠ gx := by omega
                have e0 : W10.cell? ⟨gx, 0, none⟩ = some (.int .u32 x.d.a) := XS.out.cell 0
                have e1 : W10.cell? ⟨gx, 1, none⟩ = some (.int .u64 x.d.n) := XS.out.cell 1
                have e2 : W10.cell? ⟨gx, 2, none⟩ = some (.bool x.gone) := XS.out.cell 2
                have e3 : W10.cell? ⟨gx, 3, none⟩ = some (.string x.v) := XS.out.cell 3
                have f0 := XS.out.frozen 0
                have f1 := XS.out.frozen 1
                have f2 := XS.out.frozen 2
                have f3 := XS.out.frozen 3
                have y0 : W10.cell? ⟨gy, 0, none⟩ = some (.int .u32 y.d.a) := XT.out.cell 0
                have y1 : W10.cell? ⟨gy, 1, none⟩ = some (.int .u64 y.d.n) := XT.out.cell 1
                have y2 : W10.cell? ⟨gy, 2, none⟩ = some (.bool y.gone) := XT.out.cell 2
                have y3 : W10.cell? ⟨gy, 3, none⟩ = some (.string y.v) := XT.out.cell 3
                have b0 : W10.cell? ⟨g8, 1, none⟩ = some v := BGc.out.cell 1
                have b1 := BGc.out.frozen 1
                have HRW10 := HRc
                have LW10 := Lc
                by_cases h2 : kd = 2
                · subst h2
                  have HJ := Lib.hid (show jpick a b l m P[i] = none by unfold jpick; rw [HX.out, HY.out]; simp)
                  go_wp2
                  go_roundw
                  case rel => exact ⟨i + 1, v, by omega, by go_num, BGc, Lib.hid (by rw [take_none hlt HJ.out, ← HAC.out]; exact HOc.out), OSc, HDc, Lc⟩
                  case measure => simp [intOf]; omega
                · have q0 : (kd == 2) = false := by simpa using h2
                  by_cases m2 : md = 2
                  · subst m2
                    have HJ := Lib.hid (show jpick a b l m P[i] = none by unfold jpick; rw [HX.out, HY.out]; simp)
                    go_wp2
                    go_roundw
                    case rel => exact ⟨i + 1, v, by omega, by go_num, BGc, Lib.hid (by rw [take_none hlt HJ.out, ← HAC.out]; exact HOc.out), OSc, HDc, Lc⟩
                    case measure => simp [intOf]; omega
                  · have q1 : (md == 2) = false := by simpa using m2
                    by_cases k0 : kd = 0
                    · have q2 : (kd == 0) = true := by simpa using k0
                      have HJ := Lib.hid (show jpick a b l m P[i] = some y by unfold jpick; rw [HX.out, HY.out]; simp [k0, m2])
                      have XSS : Hid (GR.Blk ((((W10.setCell ⟨gx, 0, none⟩ (.int .u32 y.d.a)).setCell ⟨gx, 1, none⟩ (.int .u64 y.d.n)).setCell ⟨gx, 2, none⟩ (.bool y.gone)).setCell ⟨gx, 3, none⟩ (.string y.v)) gx 67 #[.int .u32 y.d.a, .int .u64 y.d.n, .bool y.gone, .string y.v]) := Lib.hid (GR.Blk.set_ (GR.Blk.set_ (GR.Blk.set_ (GR.Blk.set_ XS.out 0 _) 1 _) 2 _) 3 _)
                      have b2 : ((((W10.setCell ⟨gx, 0, none⟩ (.int .u32 y.d.a)).setCell ⟨gx, 1, none⟩ (.int .u64 y.d.n)).setCell ⟨gx, 2, none⟩ (.bool y.gone)).setCell ⟨gx, 3, none⟩ (.string y.v)).cell? ⟨g8, 1, none⟩ = some v := (set4_far _ _ _ _ _ _ (q := ⟨g8, 1, none⟩) ne2).trans b0
                      have HRs : Hid (Below wr.heap.size wr ((((W10.setCell ⟨gx, 0, none⟩ (.int .u32 y.d.a)).setCell ⟨gx, 1, none⟩ (.int .u64 y.d.n)).setCell ⟨gx, 2, none⟩ (.bool y.gone)).setCell ⟨gx, 3, none⟩ (.string y.v))) := Lib.hid (Below.setCell (Below.setCell (Below.setCell (Below.setCell HRW10.out hgx _) hgx _) hgx _) hgx _)
                      have Ls : Hid (Below W1.heap.size W1 ((((W10.setCell ⟨gx, 0, none⟩ (.int .u32 y.d.a)).setCell ⟨gx, 1, none⟩ (.int .u64 y.d.n)).setCell ⟨gx, 2, none⟩ (.bool y.gone)).setCell ⟨gx, 3, none⟩ (.string y.v))) := Lib.hid (Below.setCell (Below.setCell (Below.setCell (Below.setCell LW10.out hgx1 _) hgx1 _) hgx1 _) hgx1 _)
                      have z0 : ((((W10.setCell ⟨gx, 0, none⟩ (.int .u32 y.d.a)).setCell ⟨gx, 1, none⟩ (.int .u64 y.d.n)).setCell ⟨gx, 2, none⟩ (.bool y.gone)).setCell ⟨gx, 3, none⟩ (.string y.v)).cell? ⟨gx, 0, none⟩ = some (.int .u32 y.d.a) := XSS.out.cell 0
                      have z1 : ((((W10.setCell ⟨gx, 0, none⟩ (.int .u32 y.d.a)).setCell ⟨gx, 1, none⟩ (.int .u64 y.d.n)).setCell ⟨gx, 2, none⟩ (.bool y.gone)).setCell ⟨gx, 3, none⟩ (.string y.v)).cell? ⟨gx, 1, none⟩ = some (.int .u64 y.d.n) := XSS.out.cell 1
                      have z2 : ((((W10.setCell ⟨gx, 0, none⟩ (.int .u32 y.d.a)).setCell ⟨gx, 1, none⟩ (.int .u64 y.d.n)).setCell ⟨gx, 2, none⟩ (.bool y.gone)).setCell ⟨gx, 3, none⟩ (.string y.v)).cell? ⟨gx, 2, none⟩ = some (.bool y.gone) := XSS.out.cell 2
                      have z3 : ((((W10.setCell ⟨gx, 0, none⟩ (.int .u32 y.d.a)).setCell ⟨gx, 1, none⟩ (.int .u64 y.d.n)).setCell ⟨gx, 2, none⟩ (.bool y.gone)).setCell ⟨gx, 3, none⟩ (.string y.v)).cell? ⟨gx, 3, none⟩ = some (.string y.v) := XSS.out.cell 3
                      go_wp2_with (at_builtin; obtain ⟨W12, hW12⟩ : ∃ W12 : World, W12 = (((W10.setCell ⟨gx, 0, none⟩ (.int .u32 y.d.a)).setCell ⟨gx, 1, none⟩ (.int .u64 y.d.n)).setCell ⟨gx, 2, none⟩ (.bool y.gone)).setCell ⟨gx, 3, none⟩ (.string y.v) := ⟨_, rfl⟩; rw [← hW12] at HRs Ls ⊢; have hs12 : W12.heap.size = W10.heap.size := (by rw [hW12]; simp [World.setCell]); have HRa := Lib.hid (bl_alloc HRs.out (.cells #[.int .u32 y.d.a, .int .u64 y.d.n, .bool y.gone, .string y.v] 67)); have La := Lib.hid (bl_alloc Ls.out (.cells #[.int .u32 y.d.a, .int .u64 y.d.n, .bool y.gone, .string y.v] 67)); refine GR.app_all (K := sibK) rfl (.tmp 83) (.tmp 85) _ rfl Try.underlying23 hi0 hz0 hz1 hz2 rfl W1.heap.size _ acc rfl (GR.Own.below ho.out HRa.out) _ 1 1 [y] rfl rfl (GR.rd_new _ hs12 (by show 40 ≤ 140737488355328; omega)) (by show (acc.length + 1) * 40 ≤ _; have := HAL.out; omega) (Below.size La.out) ?_; intro v9_ w9 ho9 hg9 hat9; obtain ⟨A9, n9, c9, rfl⟩ := own_slice ho9 (by show (acc ++ [y]).length * 40 ≤ _; rw [List.length_append]; have := HAL.out; simp; omega); obtain ⟨v9, hv9⟩ : ∃ v9, v9 = Value.slice A9 n9 c9 := ⟨_, rfl⟩; rw [← hv9] at ho9; have B9 := Lib.hid (GR.Blk.grown (GR.Blk.below BG.out HRa.out hg8) hg9 (Ne.symm (GR.own_blk_ne (GR.Own.below ho.out HRa.out) (GR.Blk.below BG.out HRa.out hg8) (by decide)))); have O9 := Lib.hid (own_far1 (j := 1) ho9 B9.out v9 (by decide)); have OS9 := Lib.hid (own_far1 (j := 1) ((GR.Own.below OS.out HRa.out).grown hg9 (own_apart (GR.Own.below OS.out HRa.out) (GR.Own.below ho.out HRa.out) (by decide))) B9.out v9 (by decide)); have HD9 := Lib.hid (own_far1 (j := 1) ((GR.Own.below HD.out HRa.out).grown hg9 (own_apart (GR.Own.below HD.out HRa.out) (GR.Own.below ho.out HRa.out) (by decide))) B9.out v9 (by decide)); have L9 := Lib.hid (Below.setCell (p := ⟨g8, 1, none⟩) (Below.grown La.out hg9 (Below.size La.out) (fun b hb => ((GR.Own.below ho.out HRa.out).lt b hb).1)) g5 v9); have p0 : w9.cell? ⟨g8, 1, none⟩ = some v := B9.out.cell 1; have p1 := B9.out.frozen 1; subst hv9; clear ho9 hg9 hat9)
                      go_roundw
                      case rel => exact ⟨i + 1, _, by omega, by go_num, Lib.hid (B9.out.set_ 1 _), Lib.hid (by rw [take_some hlt HJ.out, ← HAC.out]; exact O9.out), OS9, HD9, L9⟩
                      case measure => simp [intOf]; omega
                    · have q2 : (kd == 0) = false := by simpa using k0
                      by_cases m1 : md = 1
                      · have q3 : (md == 1) = true := by simpa using m1
                        cases hle : lesB y x with
                        | true =>
                          have HJ := Lib.hid (show jpick a b l m P[i] = some y by unfold jpick; rw [HX.out, HY.out]; simp [h2, m1, hle])
                          go_wp2_with fail
                          refine (refLes_x y x _).mono ?_
                          rintro e w11 ⟨rfl, hb11⟩
                          rw [hle]
                          have HRw11 := Lib.hid (below_then HRc.out hb11)
                          have Lw11 := Lib.hid (below_then Lc.out hb11)
                          have XS11 := Lib.hid (XS.out.below hb11 XS.out.lt)
                          have XT11 := Lib.hid (XT.out.below hb11 XT.out.lt)
                          have BG11 := Lib.hid (BGc.out.below hb11 BGc.out.lt)
                          clear hb11 e0 e1 e2 e3 f0 f1 f2 f3 y0 y1 y2 y3 b0 b1
                          have e0 : w11.cell? ⟨gx, 0, none⟩ = some (.int .u32 x.d.a) := XS11.out.cell 0
                          have e1 : w11.cell? ⟨gx, 1, none⟩ = some (.int .u64 x.d.n) := XS11.out.cell 1
                          have e2 : w11.cell? ⟨gx, 2, none⟩ = some (.bool x.gone) := XS11.out.cell 2
                          have e3 : w11.cell? ⟨gx, 3, none⟩ = some (.string x.v) := XS11.out.cell 3
                          have f0 := XS11.out.frozen 0
                          have f1 := XS11.out.frozen 1
                          have f2 := XS11.out.frozen 2
                          have f3 := XS11.out.frozen 3
                          have y0 : w11.cell? ⟨gy, 0, none⟩ = some (.int .u32 y.d.a) := XT11.out.cell 0
                          have y1 : w11.cell? ⟨gy, 1, none⟩ = some (.int .u64 y.d.n) := XT11.out.cell 1
                          have y2 : w11.cell? ⟨gy, 2, none⟩ = some (.bool y.gone) := XT11.out.cell 2
                          have y3 : w11.cell? ⟨gy, 3, none⟩ = some (.string y.v) := XT11.out.cell 3
                          have b0 : w11.cell? ⟨g8, 1, none⟩ = some v := BG11.out.cell 1
                          have b1 := BG11.out.frozen 1
                          have XSS : Hid (GR.Blk ((((w11.setCell ⟨gx, 0, none⟩ (.int .u32 y.d.a)).setCell ⟨gx, 1, none⟩ (.int .u64 y.d.n)).setCell ⟨gx, 2, none⟩ (.bool y.gone)).setCell ⟨gx, 3, none⟩ (.string y.v)) gx 67 #[.int .u32 y.d.a, .int .u64 y.d.n, .bool y.gone, .string y.v]) := Lib.hid (GR.Blk.set_ (GR.Blk.set_ (GR.Blk.set_ (GR.Blk.set_ XS11.out 0 _) 1 _) 2 _) 3 _)
                          have b2 : ((((w11.setCell ⟨gx, 0, none⟩ (.int .u32 y.d.a)).setCell ⟨gx, 1, none⟩ (.int .u64 y.d.n)).setCell ⟨gx, 2, none⟩ (.bool y.gone)).setCell ⟨gx, 3, none⟩ (.string y.v)).cell? ⟨g8, 1, none⟩ = some v := (set4_far _ _ _ _ _ _ (q := ⟨g8, 1, none⟩) ne2).trans b0
                          have HRs : Hid (Below wr.heap.size wr ((((w11.setCell ⟨gx, 0, none⟩ (.int .u32 y.d.a)).setCell ⟨gx, 1, none⟩ (.int .u64 y.d.n)).setCell ⟨gx, 2, none⟩ (.bool y.gone)).setCell ⟨gx, 3, none⟩ (.string y.v))) := Lib.hid (Below.setCell (Below.setCell (Below.setCell (Below.setCell HRw11.out hgx _) hgx _) hgx _) hgx _)
                          have Ls : Hid (Below W1.heap.size W1 ((((w11.setCell ⟨gx, 0, none⟩ (.int .u32 y.d.a)).setCell ⟨gx, 1, none⟩ (.int .u64 y.d.n)).setCell ⟨gx, 2, none⟩ (.bool y.gone)).setCell ⟨gx, 3, none⟩ (.string y.v))) := Lib.hid (Below.setCell (Below.setCell (Below.setCell (Below.setCell Lw11.out hgx1 _) hgx1 _) hgx1 _) hgx1 _)
                          have z0 : ((((w11.setCell ⟨gx, 0, none⟩ (.int .u32 y.d.a)).setCell ⟨gx, 1, none⟩ (.int .u64 y.d.n)).setCell ⟨gx, 2, none⟩ (.bool y.gone)).setCell ⟨gx, 3, none⟩ (.string y.v)).cell? ⟨gx, 0, none⟩ = some (.int .u32 y.d.a) := XSS.out.cell 0
                          have z1 : ((((w11.setCell ⟨gx, 0, none⟩ (.int .u32 y.d.a)).setCell ⟨gx, 1, none⟩ (.int .u64 y.d.n)).setCell ⟨gx, 2, none⟩ (.bool y.gone)).setCell ⟨gx, 3, none⟩ (.string y.v)).cell? ⟨gx, 1, none⟩ = some (.int .u64 y.d.n) := XSS.out.cell 1
                          have z2 : ((((w11.setCell ⟨gx, 0, none⟩ (.int .u32 y.d.a)).setCell ⟨gx, 1, none⟩ (.int .u64 y.d.n)).setCell ⟨gx, 2, none⟩ (.bool y.gone)).setCell ⟨gx, 3, none⟩ (.string y.v)).cell? ⟨gx, 2, none⟩ = some (.bool y.gone) := XSS.out.cell 2
                          have z3 : ((((w11.setCell ⟨gx, 0, none⟩ (.int .u32 y.d.a)).setCell ⟨gx, 1, none⟩ (.int .u64 y.d.n)).setCell ⟨gx, 2, none⟩ (.bool y.gone)).setCell ⟨gx, 3, none⟩ (.string y.v)).cell? ⟨gx, 3, none⟩ = some (.string y.v) := XSS.out.cell 3
                          go_wp2_with (at_builtin; obtain ⟨W12, hW12⟩ : ∃ W12 : World, W12 = (((w11.setCell ⟨gx, 0, none⟩ (.int .u32 y.d.a)).setCell ⟨gx, 1, none⟩ (.int .u64 y.d.n)).setCell ⟨gx, 2, none⟩ (.bool y.gone)).setCell ⟨gx, 3, none⟩ (.string y.v) := ⟨_, rfl⟩; rw [← hW12] at HRs Ls ⊢; have hs12 : W12.heap.size = w11.heap.size := (by rw [hW12]; simp [World.setCell]); have HRa := Lib.hid (bl_alloc HRs.out (.cells #[.int .u32 y.d.a, .int .u64 y.d.n, .bool y.gone, .string y.v] 67)); have La := Lib.hid (bl_alloc Ls.out (.cells #[.int .u32 y.d.a, .int .u64 y.d.n, .bool y.gone, .string y.v] 67)); refine GR.app_all (K := sibK) rfl (.tmp 83) (.tmp 85) _ rfl Try.underlying23 hi0 hz0 hz1 hz2 rfl W1.heap.size _ acc rfl (GR.Own.below ho.out HRa.out) _ 1 1 [y] rfl rfl (GR.rd_new _ hs12 (by show 40 ≤ 140737488355328; omega)) (by show (acc.length + 1) * 40 ≤ _; have := HAL.out; omega) (Below.size La.out) ?_; intro v9_ w9 ho9 hg9 hat9; obtain ⟨A9, n9, c9, rfl⟩ := own_slice ho9 (by show (acc ++ [y]).length * 40 ≤ _; rw [List.length_append]; have := HAL.out; simp; omega); obtain ⟨v9, hv9⟩ : ∃ v9, v9 = Value.slice A9 n9 c9 := ⟨_, rfl⟩; rw [← hv9] at ho9; have B9 := Lib.hid (GR.Blk.grown (GR.Blk.below BG.out HRa.out hg8) hg9 (Ne.symm (GR.own_blk_ne (GR.Own.below ho.out HRa.out) (GR.Blk.below BG.out HRa.out hg8) (by decide)))); have O9 := Lib.hid (own_far1 (j := 1) ho9 B9.out v9 (by decide)); have OS9 := Lib.hid (own_far1 (j := 1) ((GR.Own.below OS.out HRa.out).grown hg9 (own_apart (GR.Own.below OS.out HRa.out) (GR.Own.below ho.out HRa.out) (by decide))) B9.out v9 (by decide)); have HD9 := Lib.hid (own_far1 (j := 1) ((GR.Own.below HD.out HRa.out).grown hg9 (own_apart (GR.Own.below HD.out HRa.out) (GR.Own.below ho.out HRa.out) (by decide))) B9.out v9 (by decide)); have L9 := Lib.hid (Below.setCell (p := ⟨g8, 1, none⟩) (Below.grown La.out hg9 (Below.size La.out) (fun b hb => ((GR.Own.below ho.out HRa.out).lt b hb).1)) g5 v9); have p0 : w9.cell? ⟨g8, 1, none⟩ = some v := B9.out.cell 1; have p1 := B9.out.frozen 1; subst hv9; clear ho9 hg9 hat9)
                          go_roundw
                          case rel => exact ⟨i + 1, _, by omega, by go_num, Lib.hid (B9.out.set_ 1 _), Lib.hid (by rw [take_some hlt HJ.out, ← HAC.out]; exact O9.out), OS9, HD9, L9⟩
                          case measure => simp [intOf]; omega
                        | false =>
                          have HJ := Lib.hid (show jpick a b l m P[i] = some x by unfold jpick; rw [HX.out, HY.out]; simp [h2, k0, m1, hle])
                          go_wp2_with fail
                          refine (refLes_x y x _).mono ?_
                          rintro e w11 ⟨rfl, hb11⟩
                          rw [hle]
                          have HRw11 := Lib.hid (below_then HRc.out hb11)
                          have Lw11 := Lib.hid (below_then Lc.out hb11)
                          have XS11 := Lib.hid (XS.out.below hb11 XS.out.lt)
                          have XT11 := Lib.hid (XT.out.below hb11 XT.out.lt)
                          have BG11 := Lib.hid (BGc.out.below hb11 BGc.out.lt)
                          clear hb11 e0 e1 e2 e3 f0 f1 f2 f3 y0 y1 y2 y3 b0 b1
                          have e0 : w11.cell? ⟨gx, 0, none⟩ = some (.int .u32 x.d.a) := XS11.out.cell 0
                          have e1 : w11.cell? ⟨gx, 1, none⟩ = some (.int .u64 x.d.n) := XS11.out.cell 1
                          have e2 : w11.cell? ⟨gx, 2, none⟩ = some (.bool x.gone) := XS11.out.cell 2
                          have e3 : w11.cell? ⟨gx, 3, none⟩ = some (.string x.v) := XS11.out.cell 3
                          have f0 := XS11.out.frozen 0
                          have f1 := XS11.out.frozen 1
                          have f2 := XS11.out.frozen 2
                          have f3 := XS11.out.frozen 3
                          have y0 : w11.cell? ⟨gy, 0, none⟩ = some (.int .u32 y.d.a) := XT11.out.cell 0
                          have y1 : w11.cell? ⟨gy, 1, none⟩ = some (.int .u64 y.d.n) := XT11.out.cell 1
                          have y2 : w11.cell? ⟨gy, 2, none⟩ = some (.bool y.gone) := XT11.out.cell 2
                          have y3 : w11.cell? ⟨gy, 3, none⟩ = some (.string y.v) := XT11.out.cell 3
                          have b0 : w11.cell? ⟨g8, 1, none⟩ = some v := BG11.out.cell 1
                          have b1 := BG11.out.frozen 1
                          go_wp2_with (at_builtin; refine GR.app_one (K := sibK) rfl (.tmp 83) (.tmp 85) _ rfl Try.underlying23 hi0 hz0 hz1 hz2 rfl W1.heap.size _ acc x rfl (GR.Own.below ho.out HRw11.out) rfl (by show (acc.length + 1) * 40 ≤ _; have := HAL.out; omega) (Below.size Lw11.out) ?_; intro v9_ w9 ho9 hg9 hat9; obtain ⟨A9, n9, c9, rfl⟩ := own_slice ho9 (by show (acc ++ [x]).length * 40 ≤ _; rw [List.length_append]; have := HAL.out; simp; omega); obtain ⟨v9, hv9⟩ : ∃ v9, v9 = Value.slice A9 n9 c9 := ⟨_, rfl⟩; rw [← hv9] at ho9; have B9 := Lib.hid (GR.Blk.grown (GR.Blk.below BG.out HRw11.out hg8) hg9 (Ne.symm (GR.own_blk_ne (GR.Own.below ho.out HRw11.out) (GR.Blk.below BG.out HRw11.out hg8) (by decide)))); have O9 := Lib.hid (own_far1 (j := 1) ho9 B9.out v9 (by decide)); have OS9 := Lib.hid (own_far1 (j := 1) ((GR.Own.below OS.out HRw11.out).grown hg9 (own_apart (GR.Own.below OS.out HRw11.out) (GR.Own.below ho.out HRw11.out) (by decide))) B9.out v9 (by decide)); have HD9 := Lib.hid (own_far1 (j := 1) ((GR.Own.below HD.out HRw11.out).grown hg9 (own_apart (GR.Own.below HD.out HRw11.out) (GR.Own.below ho.out HRw11.out) (by decide))) B9.out v9 (by decide)); have L9 := Lib.hid (Below.setCell (p := ⟨g8, 1, none⟩) (Below.grown Lw11.out hg9 (Below.size Lw11.out) (fun b hb => ((GR.Own.below ho.out HRw11.out).lt b hb).1)) g5 v9); have p0 : w9.cell? ⟨g8, 1, none⟩ = some v := B9.out.cell 1; have p1 := B9.out.frozen 1; subst hv9; clear ho9 hg9 hat9)
                          go_roundw
                          case rel => exact ⟨i + 1, _, by omega, by go_num, Lib.hid (B9.out.set_ 1 _), Lib.hid (by rw [take_some hlt HJ.out, ← HAC.out]; exact O9.out), OS9, HD9, L9⟩
                          case measure => simp [intOf]; omega
                      · have q3 : (md == 1) = false := by simpa using m1
                        have HJ := Lib.hid (show jpick a b l m P[i] = some x by unfold jpick; rw [HX.out, HY.out]; simp [h2, m2, k0, m1])
                        go_wp2_with (at_builtin; refine GR.app_one (K := sibK) rfl (.tmp 83) (.tmp 85) _ rfl Try.underlying23 hi0 hz0 hz1 hz2 rfl W1.heap.size _ acc x rfl (GR.Own.below ho.out HRW10.out) rfl (by show (acc.length + 1) * 40 ≤ _; have := HAL.out; omega) (Below.size LW10.out) ?_; intro v9_ w9 ho9 hg9 hat9; obtain ⟨A9, n9, c9, rfl⟩ := own_slice ho9 (by show (acc ++ [x]).length * 40 ≤ _; rw [List.length_append]; have := HAL.out; simp; omega); obtain ⟨v9, hv9⟩ : ∃ v9, v9 = Value.slice A9 n9 c9 := ⟨_, rfl⟩; rw [← hv9] at ho9; have B9 := Lib.hid (GR.Blk.grown (GR.Blk.below BG.out HRW10.out hg8) hg9 (Ne.symm (GR.own_blk_ne (GR.Own.below ho.out HRW10.out) (GR.Blk.below BG.out HRW10.out hg8) (by decide)))); have O9 := Lib.hid (own_far1 (j := 1) ho9 B9.out v9 (by decide)); have OS9 := Lib.hid (own_far1 (j := 1) ((GR.Own.below OS.out HRW10.out).grown hg9 (own_apart (GR.Own.below OS.out HRW10.out) (GR.Own.below ho.out HRW10.out) (by decide))) B9.out v9 (by decide)); have HD9 := Lib.hid (own_far1 (j := 1) ((GR.Own.below HD.out HRW10.out).grown hg9 (own_apart (GR.Own.below HD.out HRW10.out) (GR.Own.below ho.out HRW10.out) (by decide))) B9.out v9 (by decide)); have L9 := Lib.hid (Below.setCell (p := ⟨g8, 1, none⟩) (Below.grown LW10.out hg9 (Below.size LW10.out) (fun b hb => ((GR.Own.below ho.out HRW10.out).lt b hb).1)) g5 v9); have p0 : w9.cell? ⟨g8, 1, none⟩ = some v := B9.out.cell 1; have p1 := B9.out.frozen 1; subst hv9; clear ho9 hg9 hat9)
                        go_roundw
                        case rel => exact ⟨i + 1, _, by omega, by go_num, Lib.hid (B9.out.set_ 1 _), Lib.hid (by rw [take_some hlt HJ.out, ← HAC.out]; exact O9.out), OS9, HD9, L9⟩
                        case measure => simp [intOf]; omega
            · skip
              go_simp
              skip
              refine hK.out _ _ ?_ (fun hHeld => ?_)
              · exact ⟨(Below.cell (p := ⟨w.heap.size, 0, none⟩) (by repeat (first | exact HR.out | refine bl_drewN ?_ _ | refine bl_drew ?_ | refine bl_alloc ?_ _ | refine Below.setCell ?_ (by simp; try omega) _)) (World.block_lt_of_cell? wr _ KA0.out)).trans KA0.out, (Below.cell (p := ⟨w.heap.size, 1, none⟩) (by repeat (first | exact HR.out | refine bl_drewN ?_ _ | refine bl_drew ?_ | refine bl_alloc ?_ _ | refine Below.setCell ?_ (by simp; try omega) _)) (World.block_lt_of_cell? wr _ KA1.out)).trans KA1.out, (Below.cell (p := ⟨gd, i * 2, none⟩) (by repeat (first | exact HR.out | refine bl_drewN ?_ _ | refine bl_drew ?_ | refine bl_alloc ?_ _ | refine Below.setCell ?_ (by simp; try omega) _)) (World.block_lt_of_cell? wr _ KD0.out)).trans KD0.out, (Below.cell (p := ⟨gd, i * 2 + 1, none⟩) (by repeat (first | exact HR.out | refine bl_drewN ?_ _ | refine bl_drew ?_ | refine bl_alloc ?_ _ | refine Below.setCell ?_ (by simp; try omega) _)) (World.block_lt_of_cell? wr _ KD1.out)).trans KD1.out⟩
              clear hK K
              try simp only [Act.put, List.setIfInBounds_toArray, List.set_cons_zero, List.set_cons_succ]
              refine wpAnyH_ready (rs := [5]) (by kernel_rfl) (by simp) ?_
              refine AllReadyH.cons (o := { dst := some 52, op := Op.call { callee := Callee.value (Operand.func 71), args := #[Operand.tmp 47, Operand.tmp 51], argTypes := #[25, 41] }, type := 102, pos := "ref.go:117", after := #[{ on := 0, ground := Ground.data }, { on := 4, ground := Ground.data }], guard := none }) rfl (fun K hK => ?_) (AllReadyH.nil)
              go_simp
              go_at_call 71
              refine (says_is HX.out (by repeat (first | exact HAr.out | refine GR.Rd.drewN ?_ _ | refine GR.Rd.drew ?_ | refine GR.Rd.alloc ?_ _)) (by repeat (first | exact HLr.out | refine GR.Rd.drewN ?_ _ | refine GR.Rd.drew ?_ | refine GR.Rd.alloc ?_ _)) NA.out).mono ?_
              rintro e w8 ⟨rfl, hb8⟩
              have hs8 : wr.heap.size ≤ w8.heap.size := (Below.size (bl_then (w := wr) (by repeat (first | exact HR.out | refine bl_drewN ?_ _ | refine bl_drew ?_ | refine bl_alloc ?_ _)) hb8))
              have N_ := Lib.hid (bl_then (w := wr) (by repeat (first | exact HR.out | refine bl_drewN ?_ _ | refine bl_drew ?_ | refine bl_alloc ?_ _)) hb8)
              clear HR
              have HR := N_
              clear N_
              have XG8 : Hid (GR.Blk w8 wr.heap.size 67 #[.int .u32 0, .int .u64 0, .bool false, .string ⟨#[]⟩]) := Lib.hid (by refine GR.Blk.below ?_ hb8 ?_; exact new_at _ _ _ (by simp); simp)
              have e0 := XG8.out.cell 0
              have e1 := XG8.out.cell 1
              have e2 := XG8.out.cell 2
              have e3 := XG8.out.cell 3
              have f0 := XG8.out.frozen 0
              have f1 := XG8.out.frozen 1
              have f2 := XG8.out.frozen 2
              have f3 := XG8.out.frozen 3
              clear hb8
              refine hK.out _ _ ?_ (fun hHeld => ?_)
              · exact ⟨(Below.cell (p := ⟨w.heap.size, 0, none⟩) (by repeat (first | exact HR.out | refine bl_drewN ?_ _ | refine bl_drew ?_ | refine bl_alloc ?_ _ | refine Below.setCell ?_ (by simp; try omega) _)) (World.block_lt_of_cell? wr _ KA0.out)).trans KA0.out, (Below.cell (p := ⟨w.heap.size, 1, none⟩) (by repeat (first | exact HR.out | refine bl_drewN ?_ _ | refine bl_drew ?_ | refine bl_alloc ?_ _ | refine Below.setCell ?_ (by simp; try omega) _)) (World.block_lt_of_cell? wr _ KA1.out)).trans KA1.out, (Below.cell (p := ⟨gd, i * 2, none⟩) (by repeat (first | exact HR.out | refine bl_drewN ?_ _ | refine bl_drew ?_ | refine bl_alloc ?_ _ | refine Below.setCell ?_ (by simp; try omega) _)) (World.block_lt_of_cell? wr _ KD0.out)).trans KD0.out, (Below.cell (p := ⟨gd, i * 2 + 1, none⟩) (by repeat (first | exact HR.out | refine bl_drewN ?_ _ | refine bl_drew ?_ | refine bl_alloc ?_ _ | refine Below.setCell ?_ (by simp; try omega) _)) (World.block_lt_of_cell? wr _ KD1.out)).trans KD1.out⟩
              clear hK K
              try simp only [Act.put, List.setIfInBounds_toArray, List.set_cons_zero, List.set_cons_succ]
              refine wpAnyH_take (i := 6) (oi := { dst := some 46, op := Op.move (Operand.tmp 52), type := 102, pos := "ref.go:117", after := #[{ on := 5, ground := Ground.data }], guard := none }) (v := ?_) rfl (by kernel_rfl) (by kernel_rfl) (by kernel_rfl) (fun _ _ _ h => h) (Or.inl ⟨by rfl, ?_⟩) (by assumption) ?_
              rotate_left
              · intro w_ hSw; (try dsimp only at hSw); go_simp; first | done | with_reducible rfl
              try simp only [Act.put, List.setIfInBounds_toArray, List.set_cons_zero, List.set_cons_succ]
              refine wpAnyH_take (i := 7) (oi := { dst := some 53, op := Op.extract (Operand.tmp 46) 0, type := 3, pos := "ref.go:117", after := #[{ on := 6, ground := Ground.data }], guard := none }) (v := ?_) rfl (by kernel_rfl) (by kernel_rfl) (by kernel_rfl) (fun _ _ _ h => h) (Or.inl ⟨by rfl, ?_⟩) (by assumption) ?_
              rotate_left
              · intro w_ hSw; (try dsimp only at hSw); go_simp; first | done | with_reducible rfl
              try simp only [Act.put, List.setIfInBounds_toArray, List.set_cons_zero, List.set_cons_succ]
              refine wpAnyH_take (i := 8) (oi := { dst := some 54, op := Op.extract (Operand.tmp 46) 1, type := 67, pos := "ref.go:117", after := #[{ on := 6, ground := Ground.data }, { on := 10, ground := Ground.gcOnly Departure.lateStores }], guard := none }) (v := ?_) rfl (by kernel_rfl) (by kernel_rfl) (by kernel_rfl) (fun _ _ _ h => h) (Or.inl ⟨by rfl, ?_⟩) (by assumption) ?_
              rotate_left
              · intro w_ hSw; (try dsimp only at hSw); go_simp; first | done | with_reducible rfl
              try simp only [Act.put, List.setIfInBounds_toArray, List.set_cons_zero, List.set_cons_succ]
              refine wpAnyH_take (i := 10) (oi := { dst := some 11, op := Op.assign (Operand.tmp 53), type := 3, pos := "ref.go:117", after := #[{ on := 7, ground := Ground.data }, { on := 5, ground := Ground.chain }, { on := 0, ground := Ground.phase }, { on := 1, ground := Ground.phase }, { on := 2, ground := Ground.phase }, { on := 3, ground := Ground.phase }, { on := 4, ground := Ground.phase }, { on := 5, ground := Ground.phase }, { on := 6, ground := Ground.phase }, { on := 7, ground := Ground.phase }, { on := 8, ground := Ground.textOnly Departure.lateStores }, { on := 9, ground := Ground.phase }], guard := none }) (v := ?_) rfl (by kernel_rfl) (by kernel_rfl) (by kernel_rfl) (fun _ _ _ h => h) (Or.inl ⟨by rfl, ?_⟩) (by assumption) ?_
              rotate_left
              · intro w_ hSw; (try dsimp only at hSw); go_simp; first | done | with_reducible rfl
              try simp only [Act.put, List.setIfInBounds_toArray, List.set_cons_zero, List.set_cons_succ]
              refine wpAnyH_ready (rs := [11]) (by kernel_rfl) (by simp) ?_
              refine AllReadyH.cons (o := { dst := none, op := Op.store 67 (Operand.tmp 12) (Operand.tmp 54), type := 0, pos := "ref.go:117", after := #[{ on := 9, ground := Ground.data }, { on := 8, ground := Ground.data }, { on := 10, ground := Ground.chain }, { on := 0, ground := Ground.phase }, { on := 1, ground := Ground.phase }, { on := 2, ground := Ground.phase }, { on := 3, ground := Ground.phase }, { on := 4, ground := Ground.phase }, { on := 5, ground := Ground.phase }, { on := 6, ground := Ground.phase }, { on := 7, ground := Ground.phase }, { on := 8, ground := Ground.phase }, { on := 9, ground := Ground.phase }, { on := 10, ground := Ground.phase }], guard := none }) rfl (fun K hK => ?_) (AllReadyH.nil)
              go_simp
              skip
              refine hK.out _ _ ?_ (fun hHeld => ?_)
              · exact ⟨(Below.cell (p := ⟨w.heap.size, 0, none⟩) (by repeat (first | exact HR.out | refine bl_drewN ?_ _ | refine bl_drew ?_ | refine bl_alloc ?_ _ | refine Below.setCell ?_ (by simp; try omega) _)) (World.block_lt_of_cell? wr _ KA0.out)).trans KA0.out, (Below.cell (p := ⟨w.heap.size, 1, none⟩) (by repeat (first | exact HR.out | refine bl_drewN ?_ _ | refine bl_drew ?_ | refine bl_alloc ?_ _ | refine Below.setCell ?_ (by simp; try omega) _)) (World.block_lt_of_cell? wr _ KA1.out)).trans KA1.out, (Below.cell (p := ⟨gd, i * 2, none⟩) (by repeat (first | exact HR.out | refine bl_drewN ?_ _ | refine bl_drew ?_ | refine bl_alloc ?_ _ | refine Below.setCell ?_ (by simp; try omega) _)) (World.block_lt_of_cell? wr _ KD0.out)).trans KD0.out, (Below.cell (p := ⟨gd, i * 2 + 1, none⟩) (by repeat (first | exact HR.out | refine bl_drewN ?_ _ | refine bl_drew ?_ | refine bl_alloc ?_ _ | refine Below.setCell ?_ (by simp; try omega) _)) (World.block_lt_of_cell? wr _ KD1.out)).trans KD1.out⟩
              clear hK K
              try simp only [Act.put, List.setIfInBounds_toArray, List.set_cons_zero, List.set_cons_succ]
              refine wpAnyH_done (by kernel_rfl) ?_ _
              clear hHeld
              clear e0 e1 e2 e3 f0 f1 f2 f3
              obtain ⟨W8, h_⟩ : ∃ W8 : World, W8 = (((w8.setCell ⟨wr.heap.size, 0, none⟩ (.int .u32 x.d.a)).setCell ⟨wr.heap.size, 1, none⟩ (.int .u64 x.d.n)).setCell ⟨wr.heap.size, 2, none⟩ (.bool x.gone)).setCell ⟨wr.heap.size, 3, none⟩ (.string x.v) := ⟨_, rfl⟩
              rw [← h_]
              obtain ⟨gx, hg_⟩ : ∃ gx : Nat, gx = wr.heap.size := ⟨_, rfl⟩
              have Xgx : Hid (GR.Blk W8 gx 67 #[.int .u32 x.d.a, .int .u64 x.d.n, .bool x.gone, .string x.v]) := Lib.hid (by rw [h_, hg_]; exact GR.Blk.set_ (GR.Blk.set_ (GR.Blk.set_ (GR.Blk.set_ XG8.out 0 _) 1 _) 2 _) 3 _)
              have HW8 : Hid (Below wr.heap.size wr W8) := Lib.hid (by rw [h_]; exact (by repeat (first | exact HR.out | refine Below.setCell ?_ (by simp) _)))
              rw [← hg_]
              have hgx : wr.heap.size ≤ gx := by rw [hg_]; exact Nat.le_refl _
              clear h_ hg_ hs8 HR XG8
              have KB0 : Hid (W8.cell? ⟨w.heap.size + 1, 0, none⟩ = some (.slice C b.length c3)) := Lib.hid ((XB.out.below (below_then L7.out HW8.out) XB.out.lt).cell 0)
              have KB1 : Hid (W8.cell? ⟨w.heap.size + 1, 1, none⟩ = some (.slice D m.length c4)) := Lib.hid ((XB.out.below (below_then L7.out HW8.out) XB.out.lt).cell 1)
              have KD2 : Hid (W8.cell? ⟨gd, i * 2, none⟩ = some (.int .u32 P[i].a)) := Lib.hid ((Below.cell (p := ⟨gd, i * 2, none⟩) HW8.out hgw).trans KD0.out)
              have KD3 : Hid (W8.cell? ⟨gd, i * 2 + 1, none⟩ = some (.int .u64 P[i].n)) := Lib.hid ((Below.cell (p := ⟨gd, i * 2 + 1, none⟩) HW8.out hgw).trans KD1.out)
              clear KD0 KD1 KA0 KA1
              have KD0 := KD2
              have KD1 := KD3
              clear KD2 KD3
              have HBr := Lib.hid (HB.out.below (bl_then LW.out (below_then L7.out HW8.out)))
              have HMr := Lib.hid (HM.out.below (bl_then LW.out (below_then L7.out HW8.out)))
              have HR2 := Lib.hid (Below.refl W8.heap.size W8)
              have hw8 : wr.heap.size ≤ W8.heap.size := HW8.out.size
              go_wp2
              refine wp_region_held_drew (S := fun w' => w'.cell? ⟨w.heap.size + 1, 0, none⟩ = some (.slice C b.length c3) ∧ w'.cell? ⟨w.heap.size + 1, 1, none⟩ = some (.slice D m.length c4) ∧ w'.cell? ⟨gd, i * 2, none⟩ = some (.int .u32 P[i].a) ∧ w'.cell? ⟨gd, i * 2 + 1, none⟩ = some (.int .u64 P[i].n)) (by kernel_rfl) ?_ (fun hHeld => ?_)
              · exact ⟨(Below.cell (p := ⟨w.heap.size + 1, 0, none⟩) (by repeat (first | exact HR2.out | refine bl_drewN ?_ _ | refine bl_drew ?_ | refine bl_alloc ?_ _ | refine Below.setCell ?_ (by simp; try omega) _)) (World.block_lt_of_cell? W8 _ KB0.out)).trans KB0.out, (Below.cell (p := ⟨w.heap.size + 1, 1, none⟩) (by repeat (first | exact HR2.out | refine bl_drewN ?_ _ | refine bl_drew ?_ | refine bl_alloc ?_ _ | refine Below.setCell ?_ (by simp; try omega) _)) (World.block_lt_of_cell? W8 _ KB1.out)).trans KB1.out, (Below.cell (p := ⟨gd, i * 2, none⟩) (by repeat (first | exact HR2.out | refine bl_drewN ?_ _ | refine bl_drew ?_ | refine bl_alloc ?_ _ | refine Below.setCell ?_ (by simp; try omega) _)) (World.block_lt_of_cell? W8 _ KD0.out)).trans KD0.out, (Below.cell (p := ⟨gd, i * 2 + 1, none⟩) (by repeat (first | exact HR2.out | refine bl_drewN ?_ _ | refine bl_drew ?_ | refine bl_alloc ?_ _ | refine Below.setCell ?_ (by simp; try omega) _)) (World.block_lt_of_cell? W8 _ KD1.out)).trans KD1.out⟩
              refine wpAnyH_take (i := 0) (oi := { dst := some 56, op := Op.load 25 (Operand.tmp 3), type := 25, pos := "ref.go:118", after := #[], guard := none }) (v := ?_) rfl (by kernel_rfl) (by kernel_rfl) (by kernel_rfl) (fun _ _ _ h => h) (Or.inl ⟨by rfl, ?_⟩) (by assumption) ?_
              rotate_left
              · intro w_ hSw; (try dsimp only at hSw); go_simp; first | done | with_reducible rfl
              try simp only [Act.put, List.setIfInBounds_toArray, List.set_cons_zero, List.set_cons_succ]
              refine wpAnyH_take (i := 1) (oi := { dst := some 57, op := Op.move (Operand.tmp 9), type := 22, pos := "ref.go:118", after := #[], guard := none }) (v := ?_) rfl (by kernel_rfl) (by kernel_rfl) (by kernel_rfl) (fun _ _ _ h => h) (Or.inl ⟨by rfl, ?_⟩) (by assumption) ?_
              rotate_left
              · intro w_ hSw; (try dsimp only at hSw); go_simp; first | done | with_reducible rfl
              try simp only [Act.put, List.setIfInBounds_toArray, List.set_cons_zero, List.set_cons_succ]
              refine wpAnyH_take (i := 2) (oi := { dst := some 58, op := Op.move (Operand.tmp 10), type := 3, pos := "ref.go:118", after := #[], guard := none }) (v := ?_) rfl (by kernel_rfl) (by kernel_rfl) (by kernel_rfl) (fun _ _ _ h => h) (Or.inl ⟨by rfl, ?_⟩) (by assumption) ?_
              rotate_left
              · intro w_ hSw; (try dsimp only at hSw); go_simp; first | done | with_reducible rfl
              try simp only [Act.put, List.setIfInBounds_toArray, List.set_cons_zero, List.set_cons_succ]
              refine wpAnyH_take (i := 3) (oi := { dst := some 59, op := Op.indexAddr 22 (Operand.tmp 57) (Operand.tmp 58), type := 0, pos := "ref.go:118", after := #[{ on := 1, ground := Ground.data }, { on := 2, ground := Ground.data }], guard := none }) (v := ?_) rfl (by kernel_rfl) (by kernel_rfl) (by kernel_rfl) (fun _ _ _ h => h) (Or.inl ⟨by rfl, ?_⟩) (by assumption) ?_
              rotate_left
              · intro w_ hSw; (try dsimp only at hSw); go_simp; first | done | with_reducible rfl
              try simp only [Act.put, List.setIfInBounds_toArray, List.set_cons_zero, List.set_cons_succ]
              refine wpAnyH_take (i := 4) (oi := { dst := some 60, op := Op.load 41 (Operand.tmp 59), type := 41, pos := "ref.go:118", after := #[{ on := 3, ground := Ground.data }], guard := none }) (v := ?_) rfl (by kernel_rfl) (by kernel_rfl) (by kernel_rfl) (fun _ _ _ h => h) (Or.inl ⟨by rfl, ?_⟩) (by assumption) ?_
              rotate_left
              · intro w_ hSw; (try dsimp only at hSw); go_simp; first | done | with_reducible rfl
              try simp only [Act.put, List.setIfInBounds_toArray, List.set_cons_zero, List.set_cons_succ]
              refine wpAnyH_ready (rs := [5, 9]) (by kernel_rfl) (by simp) ?_
              refine AllReadyH.cons (o := { dst := some 61, op := Op.call { callee := Callee.value (Operand.func 71), args := #[Operand.tmp 56, Operand.tmp 60], argTypes := #[25, 41] }, type := 102, pos := "ref.go:118", after := #[{ on := 0, ground := Ground.data }, { on := 4, ground := Ground.data }], guard := none }) rfl (fun K hK => ?_) (AllReadyH.cons (o := { dst := some 14, op := Op.alloc 67, type := 0, pos := "ref.go:118", after := #[], guard := none }) rfl (fun K hK => ?_) (AllReadyH.nil))
              · skip
                go_simp
                go_at_call 71
                refine (says_is HY.out (by repeat (first | exact HBr.out | refine GR.Rd.drewN ?_ _ | refine GR.Rd.drew ?_ | refine GR.Rd.alloc ?_ _)) (by repeat (first | exact HMr.out | refine GR.Rd.drewN ?_ _ | refine GR.Rd.drew ?_ | refine GR.Rd.alloc ?_ _)) NB.out).mono ?_
                rintro e w8 ⟨rfl, hb8⟩
                have hs8 : W8.heap.size ≤ w8.heap.size := (Below.size (bl_then (w := W8) (by repeat (first | exact HR2.out | refine bl_drewN ?_ _ | refine bl_drew ?_ | refine bl_alloc ?_ _)) hb8))
                have N_ := Lib.hid (bl_then (w := W8) (by repeat (first | exact HR2.out | refine bl_drewN ?_ _ | refine bl_drew ?_ | refine bl_alloc ?_ _)) hb8)
                clear HR2
                have HR2 := N_
                clear N_
                clear hb8
                refine hK.out _ _ ?_ (fun hHeld => ?_)
                · exact ⟨(Below.cell (p := ⟨w.heap.size + 1, 0, none⟩) (by repeat (first | exact HR2.out | refine bl_drewN ?_ _ | refine bl_drew ?_ | refine bl_alloc ?_ _ | refine Below.setCell ?_ (by simp; try omega) _)) (World.block_lt_of_cell? W8 _ KB0.out)).trans KB0.out, (Below.cell (p := ⟨w.heap.size + 1, 1, none⟩) (by repeat (first | exact HR2.out | refine bl_drewN ?_ _ | refine bl_drew ?_ | refine bl_alloc ?_ _ | refine Below.setCell ?_ (by simp; try omega) _)) (World.block_lt_of_cell? W8 _ KB1.out)).trans KB1.out, (Below.cell (p := ⟨gd, i * 2, none⟩) (by repeat (first | exact HR2.out | refine bl_drewN ?_ _ | refine bl_drew ?_ | refine bl_alloc ?_ _ | refine Below.setCell ?_ (by simp; try omega) _)) (World.block_lt_of_cell? W8 _ KD0.out)).trans KD0.out, (Below.cell (p := ⟨gd, i * 2 + 1, none⟩) (by repeat (first | exact HR2.out | refine bl_drewN ?_ _ | refine bl_drew ?_ | refine bl_alloc ?_ _ | refine Below.setCell ?_ (by simp; try omega) _)) (World.block_lt_of_cell? W8 _ KD1.out)).trans KD1.out⟩
                clear hK K
                try simp only [Act.put, List.setIfInBounds_toArray, List.set_cons_zero, List.set_cons_succ]
                refine wpAnyH_take (i := 6) (oi := { dst := some 55, op := Op.move (Operand.tmp 61), type := 102, pos := "ref.go:118", after := #[{ on := 5, ground := Ground.data }], guard := none }) (v := ?_) rfl (by kernel_rfl) (by kernel_rfl) (by kernel_rfl) (fun _ _ _ h => h) (Or.inl ⟨by rfl, ?_⟩) (by assumption) ?_
                rotate_left
                · intro w_ hSw; (try dsimp only at hSw); go_simp; first | done | with_reducible rfl
                try simp only [Act.put, List.setIfInBounds_toArray, List.set_cons_zero, List.set_cons_succ]
                refine wpAnyH_take (i := 7) (oi := { dst := some 62, op := Op.extract (Operand.tmp 55) 0, type := 3, pos := "ref.go:118", after := #[{ on := 6, ground := Ground.data }], guard := none }) (v := ?_) rfl (by kernel_rfl) (by kernel_rfl) (by kernel_rfl) (fun _ _ _ h => h) (Or.inl ⟨by rfl, ?_⟩) (by assumption) ?_
                rotate_left
                · intro w_ hSw; (try dsimp only at hSw); go_simp; first | done | with_reducible rfl
                try simp only [Act.put, List.setIfInBounds_toArray, List.set_cons_zero, List.set_cons_succ]
                refine wpAnyH_take (i := 8) (oi := { dst := some 63, op := Op.extract (Operand.tmp 55) 1, type := 67, pos := "ref.go:118", after := #[{ on := 6, ground := Ground.data }, { on := 10, ground := Ground.gcOnly Departure.lateStores }], guard := none }) (v := ?_) rfl (by kernel_rfl) (by kernel_rfl) (by kernel_rfl) (fun _ _ _ h => h) (Or.inl ⟨by rfl, ?_⟩) (by assumption) ?_
                rotate_left
                · intro w_ hSw; (try dsimp only at hSw); go_simp; first | done | with_reducible rfl
                try simp only [Act.put, List.setIfInBounds_toArray, List.set_cons_zero, List.set_cons_succ]
                refine wpAnyH_ready (rs := [9]) (by kernel_rfl) (by simp) ?_
                refine AllReadyH.cons (o := { dst := some 14, op := Op.alloc 67, type := 0, pos := "ref.go:118", after := #[], guard := none }) rfl (fun K hK => ?_) (AllReadyH.nil)
                go_simp
                skip
                refine hK.out _ _ ?_ (fun hHeld => ?_)
                · exact ⟨(Below.cell (p := ⟨w.heap.size + 1, 0, none⟩) (by repeat (first | exact HR2.out | refine bl_drewN ?_ _ | refine bl_drew ?_ | refine bl_alloc ?_ _ | refine Below.setCell ?_ (by simp; try omega) _)) (World.block_lt_of_cell? W8 _ KB0.out)).trans KB0.out, (Below.cell (p := ⟨w.heap.size + 1, 1, none⟩) (by repeat (first | exact HR2.out | refine bl_drewN ?_ _ | refine bl_drew ?_ | refine bl_alloc ?_ _ | refine Below.setCell ?_ (by simp; try omega) _)) (World.block_lt_of_cell? W8 _ KB1.out)).trans KB1.out, (Below.cell (p := ⟨gd, i * 2, none⟩) (by repeat (first | exact HR2.out | refine bl_drewN ?_ _ | refine bl_drew ?_ | refine bl_alloc ?_ _ | refine Below.setCell ?_ (by simp; try omega) _)) (World.block_lt_of_cell? W8 _ KD0.out)).trans KD0.out, (Below.cell (p := ⟨gd, i * 2 + 1, none⟩) (by repeat (first | exact HR2.out | refine bl_drewN ?_ _ | refine bl_drew ?_ | refine bl_alloc ?_ _ | refine Below.setCell ?_ (by simp; try omega) _)) (World.block_lt_of_cell? W8 _ KD1.out)).trans KD1.out⟩
                clear hK K
                try simp only [Act.put, List.setIfInBounds_toArray, List.set_cons_zero, List.set_cons_succ]
                refine wpAnyH_take (i := 10) (oi := { dst := some 13, op := Op.assign (Operand.tmp 62), type := 3, pos := "ref.go:118", after := #[{ on := 7, ground := Ground.data }, { on := 5, ground := Ground.chain }, { on := 0, ground := Ground.phase }, { on := 1, ground := Ground.phase }, { on := 2, ground := Ground.phase }, { on := 3, ground := Ground.phase }, { on := 4, ground := Ground.phase }, { on := 5, ground := Ground.phase }, { on := 6, ground := Ground.phase }, { on := 7, ground := Ground.phase }, { on := 8, ground := Ground.textOnly Departure.lateStores }, { on := 9, ground := Ground.phase }], guard := none }) (v := ?_) rfl (by kernel_rfl) (by kernel_rfl) (by kernel_rfl) (fun _ _ _ h => h) (Or.inl ⟨by rfl, ?_⟩) (by assumption) ?_
                rotate_left
                · intro w_ hSw; (try dsimp only at hSw); go_simp; first | done | with_reducible rfl
                try simp only [Act.put, List.setIfInBounds_toArray, List.set_cons_zero, List.set_cons_succ]
                refine wpAnyH_ready (rs := [11]) (by kernel_rfl) (by simp) ?_
                refine AllReadyH.cons (o := { dst := none, op := Op.store 67 (Operand.tmp 14) (Operand.tmp 63), type := 0, pos := "ref.go:118", after := #[{ on := 9, ground := Ground.data }, { on := 8, ground := Ground.data }, { on := 10, ground := Ground.chain }, { on := 0, ground := Ground.phase }, { on := 1, ground := Ground.phase }, { on := 2, ground := Ground.phase }, { on := 3, ground := Ground.phase }, { on := 4, ground := Ground.phase }, { on := 5, ground := Ground.phase }, { on := 6, ground := Ground.phase }, { on := 7, ground := Ground.phase }, { on := 8, ground := Ground.phase }, { on := 9, ground := Ground.phase }, { on := 10, ground := Ground.phase }], guard := none }) rfl (fun K hK => ?_) (AllReadyH.nil)
                go_simp
                skip
                refine hK.out _ _ ?_ (fun hHeld => ?_)
                · exact ⟨(Below.cell (p := ⟨w.heap.size + 1, 0, none⟩) (by repeat (first | exact HR2.out | refine bl_drewN ?_ _ | refine bl_drew ?_ | refine bl_alloc ?_ _ | refine Below.setCell ?_ (by simp; try omega) _)) (World.block_lt_of_cell? W8 _ KB0.out)).trans KB0.out, (Below.cell (p := ⟨w.heap.size + 1, 1, none⟩) (by repeat (first | exact HR2.out | refine bl_drewN ?_ _ | refine bl_drew ?_ | refine bl_alloc ?_ _ | refine Below.setCell ?_ (by simp; try omega) _)) (World.block_lt_of_cell? W8 _ KB1.out)).trans KB1.out, (Below.cell (p := ⟨gd, i * 2, none⟩) (by repeat (first | exact HR2.out | refine bl_drewN ?_ _ | refine bl_drew ?_ | refine bl_alloc ?_ _ | refine Below.setCell ?_ (by simp; try omega) _)) (World.block_lt_of_cell? W8 _ KD0.out)).trans KD0.out, (Below.cell (p := ⟨gd, i * 2 + 1, none⟩) (by repeat (first | exact HR2.out | refine bl_drewN ?_ _ | refine bl_drew ?_ | refine bl_alloc ?_ _ | refine Below.setCell ?_ (by simp; try omega) _)) (World.block_lt_of_cell? W8 _ KD1.out)).trans KD1.out⟩
                clear hK K
                try simp only [Act.put, List.setIfInBounds_toArray, List.set_cons_zero, List.set_cons_succ]
                refine wpAnyH_done (by kernel_rfl) ?_ _
                clear hHeld
                skip
                obtain ⟨W10, h_⟩ : ∃ W10 : World, W10 = w8.alloc (.cells #[.int .u32 y.d.a, .int .u64 y.d.n, .bool y.gone, .string y.v] 67) := ⟨_, rfl⟩
                rw [← h_]
                obtain ⟨gy, hg_⟩ : ∃ gy : Nat, gy = w8.heap.size := ⟨_, rfl⟩
                have Xgy : Hid (GR.Blk W10 gy 67 #[.int .u32 y.d.a, .int .u64 y.d.n, .bool y.gone, .string y.v]) := Lib.hid (by rw [h_, hg_]; exact GR.Blk.new _ _ _)
                have HW10 : Hid (Below W8.heap.size W8 W10) := Lib.hid (by rw [h_]; exact (by repeat (first | exact HR2.out | refine bl_drewN ?_ _ | refine bl_drew ?_ | refine bl_alloc ?_ _)))
                rw [← hg_]
                have hgy : W8.heap.size ≤ gy := by rw [hg_]; exact hs8
                clear h_ hg_ hs8 HR2
                have XS := Lib.hid (Xgx.out.below HW10.out Xgx.out.lt)
                have XT := Xgy
                have HRc := Lib.hid (below_then HW8.out HW10.out)
                have Lc := Lib.hid (below_then L7.out HRc.out)
                have BGc := Lib.hid (BG.out.below HRc.out hg8)
                have HOc := Lib.hid (ho.out.below HRc.out)
                have OSc := Lib.hid (OS.out.below HRc.out)
                have HDc := Lib.hid (HD.out.below HRc.out)
                clear Xgx Xgy HW8 HW10
                have hgx1 : W1.heap.size ≤ gx := Nat.le_trans L7.out.size hgx
                have ne1 : gx ≠ g8 := by omega
                have ne2 : g8 ≠ gx := by omega
                have e0 : W10.cell? ⟨gx, 0, none⟩ = some (.int .u32 x.d.a) := XS.out.cell 0
                have e1 : W10.cell? ⟨gx, 1, none⟩ = some (.int .u64 x.d.n) := XS.out.cell 1
                have e2 : W10.cell? ⟨gx, 2, none⟩ = some (.bool x.gone) := XS.out.cell 2
                have e3 : W10.cell? ⟨gx, 3, none⟩ = some (.string x.v) := XS.out.cell 3
                have f0 := XS.out.frozen 0
                have f1 := XS.out.frozen 1
                have f2 := XS.out.frozen 2
                have f3 := XS.out.frozen 3
                have y0 : W10.cell? ⟨gy, 0, none⟩ = some (.int .u32 y.d.a) := XT.out.cell 0
                have y1 : W10.cell? ⟨gy, 1, none⟩ = some (.int .u64 y.d.n) := XT.out.cell 1
                have y2 : W10.cell? ⟨gy, 2, none⟩ = some (.bool y.gone) := XT.out.cell 2
                have y3 : W10.cell? ⟨gy, 3, none⟩ = some (.string y.v) := XT.out.cell 3
                have b0 : W10.cell? ⟨g8, 1, none⟩ = some v := BGc.out.cell 1
                have b1 := BGc.out.frozen 1
                have HRW10 := HRc
                have LW10 := Lc
                by_cases h2 : kd = 2
                · subst h2
                  have HJ := Lib.hid (show jpick a b l m P[i] = none by unfold jpick; rw [HX.out, HY.out]; simp)
                  go_wp2
                  go_roundw
                  case rel => exact ⟨i + 1, v, by omega, by go_num, BGc, Lib.hid (by rw [take_none hlt HJ.out, ← HAC.out]; exact HOc.out), OSc, HDc, Lc⟩
                  case measure => simp [intOf]; omega
                · have q0 : (kd == 2) = false := by simpa using h2
                  by_cases m2 : md = 2
                  · subst m2
                    have HJ := Lib.hid (show jpick a b l m P[i] = none by unfold jpick; rw [HX.out, HY.out]; simp)
                    go_wp2
                    go_roundw
                    case rel => exact ⟨i + 1, v, by omega, by go_num, BGc, Lib.hid (by rw [take_none hlt HJ.out, ← HAC.out]; exact HOc.out), OSc, HDc, Lc⟩
                    case measure => simp [intOf]; omega
                  · have q1 : (md == 2) = false := by simpa using m2
                    by_cases k0 : kd = 0
                    · have q2 : (kd == 0) = true := by simpa using k0
                      have HJ := Lib.hid (show jpick a b l m P[i] = some y by unfold jpick; rw [HX.out, HY.out]; simp [k0, m2])
                      have XSS : Hid (GR.Blk ((((W10.setCell ⟨gx, 0, none⟩ (.int .u32 y.d.a)).setCell ⟨gx, 1, none⟩ (.int .u64 y.d.n)).setCell ⟨gx, 2, none⟩ (.bool y.gone)).setCell ⟨gx, 3, none⟩ (.string y.v)) gx 67 #[.int .u32 y.d.a, .int .u64 y.d.n, .bool y.gone, .string y.v]) := Lib.hid (GR.Blk.set_ (GR.Blk.set_ (GR.Blk.set_ (GR.Blk.set_ XS.out 0 _) 1 _) 2 _) 3 _)
                      have b2 : ((((W10.setCell ⟨gx, 0, none⟩ (.int .u32 y.d.a)).setCell ⟨gx, 1, none⟩ (.int .u64 y.d.n)).setCell ⟨gx, 2, none⟩ (.bool y.gone)).setCell ⟨gx, 3, none⟩ (.string y.v)).cell? ⟨g8, 1, none⟩ = some v := (set4_far _ _ _ _ _ _ (q := ⟨g8, 1, none⟩) ne2).trans b0
                      have HRs : Hid (Below wr.heap.size wr ((((W10.setCell ⟨gx, 0, none⟩ (.int .u32 y.d.a)).setCell ⟨gx, 1, none⟩ (.int .u64 y.d.n)).setCell ⟨gx, 2, none⟩ (.bool y.gone)).setCell ⟨gx, 3, none⟩ (.string y.v))) := Lib.hid (Below.setCell (Below.setCell (Below.setCell (Below.setCell HRW10.out hgx _) hgx _) hgx _) hgx _)
                      have Ls : Hid (Below W1.heap.size W1 ((((W10.setCell ⟨gx, 0, none⟩ (.int .u32 y.d.a)).setCell ⟨gx, 1, none⟩ (.int .u64 y.d.n)).setCell ⟨gx, 2, none⟩ (.bool y.gone)).setCell ⟨gx, 3, none⟩ (.string y.v))) := Lib.hid (Below.setCell (Below.setCell (Below.setCell (Below.setCell LW10.out hgx1 _) hgx1 _) hgx1 _) hgx1 _)
                      have z0 : ((((W10.setCell ⟨gx, 0, none⟩ (.int .u32 y.d.a)).setCell ⟨gx, 1, none⟩ (.int .u64 y.d.n)).setCell ⟨gx, 2, none⟩ (.bool y.gone)).setCell ⟨gx, 3, none⟩ (.string y.v)).cell? ⟨gx, 0, none⟩ = some (.int .u32 y.d.a) := XSS.out.cell 0
                      have z1 : ((((W10.setCell ⟨gx, 0, none⟩ (.int .u32 y.d.a)).setCell ⟨gx, 1, none⟩ (.int .u64 y.d.n)).setCell ⟨gx, 2, none⟩ (.bool y.gone)).setCell ⟨gx, 3, none⟩ (.string y.v)).cell? ⟨gx, 1, none⟩ = some (.int .u64 y.d.n) := XSS.out.cell 1
                      have z2 : ((((W10.setCell ⟨gx, 0, none⟩ (.int .u32 y.d.a)).setCell ⟨gx, 1, none⟩ (.int .u64 y.d.n)).setCell ⟨gx, 2, none⟩ (.bool y.gone)).setCell ⟨gx, 3, none⟩ (.string y.v)).cell? ⟨gx, 2, none⟩ = some (.bool y.gone) := XSS.out.cell 2
                      have z3 : ((((W10.setCell ⟨gx, 0, none⟩ (.int .u32 y.d.a)).setCell ⟨gx, 1, none⟩ (.int .u64 y.d.n)).setCell ⟨gx, 2, none⟩ (.bool y.gone)).setCell ⟨gx, 3, none⟩ (.string y.v)).cell? ⟨gx, 3, none⟩ = some (.string y.v) := XSS.out.cell 3
                      go_wp2_with (at_builtin; obtain ⟨W12, hW12⟩ : ∃ W12 : World, W12 = (((W10.setCell ⟨gx, 0, none⟩ (.int .u32 y.d.a)).setCell ⟨gx, 1, none⟩ (.int .u64 y.d.n)).setCell ⟨gx, 2, none⟩ (.bool y.gone)).setCell ⟨gx, 3, none⟩ (.string y.v) := ⟨_, rfl⟩; rw [← hW12] at HRs Ls ⊢; have hs12 : W12.heap.size = W10.heap.size := (by rw [hW12]; simp [World.setCell]); have HRa := Lib.hid (bl_alloc HRs.out (.cells #[.int .u32 y.d.a, .int .u64 y.d.n, .bool y.gone, .string y.v] 67)); have La := Lib.hid (bl_alloc Ls.out (.cells #[.int .u32 y.d.a, .int .u64 y.d.n, .bool y.gone, .string y.v] 67)); refine GR.app_all (K := sibK) rfl (.tmp 83) (.tmp 85) _ rfl Try.underlying23 hi0 hz0 hz1 hz2 rfl W1.heap.size _ acc rfl (GR.Own.below ho.out HRa.out) _ 1 1 [y] rfl rfl (GR.rd_new _ hs12 (by show 40 ≤ 140737488355328; omega)) (by show (acc.length + 1) * 40 ≤ _; have := HAL.out; omega) (Below.size La.out) ?_; intro v9_ w9 ho9 hg9 hat9; obtain ⟨A9, n9, c9, rfl⟩ := own_slice ho9 (by show (acc ++ [y]).length * 40 ≤ _; rw [List.length_append]; have := HAL.out; simp; omega); obtain ⟨v9, hv9⟩ : ∃ v9, v9 = Value.slice A9 n9 c9 := ⟨_, rfl⟩; rw [← hv9] at ho9; have B9 := Lib.hid (GR.Blk.grown (GR.Blk.below BG.out HRa.out hg8) hg9 (Ne.symm (GR.own_blk_ne (GR.Own.below ho.out HRa.out) (GR.Blk.below BG.out HRa.out hg8) (by decide)))); have O9 := Lib.hid (own_far1 (j := 1) ho9 B9.out v9 (by decide)); have OS9 := Lib.hid (own_far1 (j := 1) ((GR.Own.below OS.out HRa.out).grown hg9 (own_apart (GR.Own.below OS.out HRa.out) (GR.Own.below ho.out HRa.out) (by decide))) B9.out v9 (by decide)); have HD9 := Lib.hid (own_far1 (j := 1) ((GR.Own.below HD.out HRa.out).grown hg9 (own_apart (GR.Own.below HD.out HRa.out) (GR.Own.below ho.out HRa.out) (by decide))) B9.out v9 (by decide)); have L9 := Lib.hid (Below.setCell (p := ⟨g8, 1, none⟩) (Below.grown La.out hg9 (Below.size La.out) (fun b hb => ((GR.Own.below ho.out HRa.out).lt b hb).1)) g5 v9); have p0 : w9.cell? ⟨g8, 1, none⟩ = some v := B9.out.cell 1; have p1 := B9.out.frozen 1; subst hv9; clear ho9 hg9 hat9)
                      go_roundw
                      case rel => exact ⟨i + 1, _, by omega, by go_num, Lib.hid (B9.out.set_ 1 _), Lib.hid (by rw [take_some hlt HJ.out, ← HAC.out]; exact O9.out), OS9, HD9, L9⟩
                      case measure => simp [intOf]; omega
                    · have q2 : (kd == 0) = false := by simpa using k0
                      by_cases m1 : md = 1
                      · have q3 : (md == 1) = true := by simpa using m1
                        cases hle : lesB y x with
                        | true =>
                          have HJ := Lib.hid (show jpick a b l m P[i] = some y by unfold jpick; rw [HX.out, HY.out]; simp [h2, m1, hle])
                          go_wp2_with fail
                          refine (refLes_x y x _).mono ?_
                          rintro e w11 ⟨rfl, hb11⟩
                          rw [hle]
                          have HRw11 := Lib.hid (below_then HRc.out hb11)
                          have Lw11 := Lib.hid (below_then Lc.out hb11)
                          have XS11 := Lib.hid (XS.out.below hb11 XS.out.lt)
                          have XT11 := Lib.hid (XT.out.below hb11 XT.out.lt)
                          have BG11 := Lib.hid (BGc.out.below hb11 BGc.out.lt)
                          clear hb11 e0 e1 e2 e3 f0 f1 f2 f3 y0 y1 y2 y3 b0 b1
                          have e0 : w11.cell? ⟨gx, 0, none⟩ = some (.int .u32 x.d.a) := XS11.out.cell 0
                          have e1 : w11.cell? ⟨gx, 1, none⟩ = some (.int .u64 x.d.n) := XS11.out.cell 1
                          have e2 : w11.cell? ⟨gx, 2, none⟩ = some (.bool x.gone) := XS11.out.cell 2
                          have e3 : w11.cell? ⟨gx, 3, none⟩ = some (.string x.v) := XS11.out.cell 3
                          have f0 := XS11.out.frozen 0
                          have f1 := XS11.out.frozen 1
                          have f2 := XS11.out.frozen 2
                          have f3 := XS11.out.frozen 3
                          have y0 : w11.cell? ⟨gy, 0, none⟩ = some (.int .u32 y.d.a) := XT11.out.cell 0
                          have y1 : w11.cell? ⟨gy, 1, none⟩ = some (.int .u64 y.d.n) := XT11.out.cell 1
                          have y2 : w11.cell? ⟨gy, 2, none⟩ = some (.bool y.gone) := XT11.out.cell 2
                          have y3 : w11.cell? ⟨gy, 3, none⟩ = some (.string y.v) := XT11.out.cell 3
                          have b0 : w11.cell? ⟨g8, 1, none⟩ = some v := BG11.out.cell 1
                          have b1 := BG11.out.frozen 1
                          have XSS : Hid (GR.Blk ((((w11.setCell ⟨gx, 0, none⟩ (.int .u32 y.d.a)).setCell ⟨gx, 1, none⟩ (.int .u64 y.d.n)).setCell ⟨gx, 2, none⟩ (.bool y.gone)).setCell ⟨gx, 3, none⟩ (.string y.v)) gx 67 #[.int .u32 y.d.a, .int .u64 y.d.n, .bool y.gone, .string y.v]) := Lib.hid (GR.Blk.set_ (GR.Blk.set_ (GR.Blk.set_ (GR.Blk.set_ XS11.out 0 _) 1 _) 2 _) 3 _)
                          have b2 : ((((w11.setCell ⟨gx, 0, none⟩ (.int .u32 y.d.a)).setCell ⟨gx, 1, none⟩ (.int .u64 y.d.n)).setCell ⟨gx, 2, none⟩ (.bool y.gone)).setCell ⟨gx, 3, none⟩ (.string y.v)).cell? ⟨g8, 1, none⟩ = some v := (set4_far _ _ _ _ _ _ (q := ⟨g8, 1, none⟩) ne2).trans b0
                          have HRs : Hid (Below wr.heap.size wr ((((w11.setCell ⟨gx, 0, none⟩ (.int .u32 y.d.a)).setCell ⟨gx, 1, none⟩ (.int .u64 y.d.n)).setCell ⟨gx, 2, none⟩ (.bool y.gone)).setCell ⟨gx, 3, none⟩ (.string y.v))) := Lib.hid (Below.setCell (Below.setCell (Below.setCell (Below.setCell HRw11.out hgx _) hgx _) hgx _) hgx _)
                          have Ls : Hid (Below W1.heap.size W1 ((((w11.setCell ⟨gx, 0, none⟩ (.int .u32 y.d.a)).setCell ⟨gx, 1, none⟩ (.int .u64 y.d.n)).setCell ⟨gx, 2, none⟩ (.bool y.gone)).setCell ⟨gx, 3, none⟩ (.string y.v))) := Lib.hid (Below.setCell (Below.setCell (Below.setCell (Below.setCell Lw11.out hgx1 _) hgx1 _) hgx1 _) hgx1 _)
                          have z0 : ((((w11.setCell ⟨gx, 0, none⟩ (.int .u32 y.d.a)).setCell ⟨gx, 1, none⟩ (.int .u64 y.d.n)).setCell ⟨gx, 2, none⟩ (.bool y.gone)).setCell ⟨gx, 3, none⟩ (.string y.v)).cell? ⟨gx, 0, none⟩ = some (.int .u32 y.d.a) := XSS.out.cell 0
                          have z1 : ((((w11.setCell ⟨gx, 0, none⟩ (.int .u32 y.d.a)).setCell ⟨gx, 1, none⟩ (.int .u64 y.d.n)).setCell ⟨gx, 2, none⟩ (.bool y.gone)).setCell ⟨gx, 3, none⟩ (.string y.v)).cell? ⟨gx, 1, none⟩ = some (.int .u64 y.d.n) := XSS.out.cell 1
                          have z2 : ((((w11.setCell ⟨gx, 0, none⟩ (.int .u32 y.d.a)).setCell ⟨gx, 1, none⟩ (.int .u64 y.d.n)).setCell ⟨gx, 2, none⟩ (.bool y.gone)).setCell ⟨gx, 3, none⟩ (.string y.v)).cell? ⟨gx, 2, none⟩ = some (.bool y.gone) := XSS.out.cell 2
                          have z3 : ((((w11.setCell ⟨gx, 0, none⟩ (.int .u32 y.d.a)).setCell ⟨gx, 1, none⟩ (.int .u64 y.d.n)).setCell ⟨gx, 2, none⟩ (.bool y.gone)).setCell ⟨gx, 3, none⟩ (.string y.v)).cell? ⟨gx, 3, none⟩ = some (.string y.v) := XSS.out.cell 3
                          go_wp2_with (at_builtin; obtain ⟨W12, hW12⟩ : ∃ W12 : World, W12 = (((w11.setCell ⟨gx, 0, none⟩ (.int .u32 y.d.a)).setCell ⟨gx, 1, none⟩ (.int .u64 y.d.n)).setCell ⟨gx, 2, none⟩ (.bool y.gone)).setCell ⟨gx, 3, none⟩ (.string y.v) := ⟨_, rfl⟩; rw [← hW12] at HRs Ls ⊢; have hs12 : W12.heap.size = w11.heap.size := (by rw [hW12]; simp [World.setCell]); have HRa := Lib.hid (bl_alloc HRs.out (.cells #[.int .u32 y.d.a, .int .u64 y.d.n, .bool y.gone, .string y.v] 67)); have La := Lib.hid (bl_alloc Ls.out (.cells #[.int .u32 y.d.a, .int .u64 y.d.n, .bool y.gone, .string y.v] 67)); refine GR.app_all (K := sibK) rfl (.tmp 83) (.tmp 85) _ rfl Try.underlying23 hi0 hz0 hz1 hz2 rfl W1.heap.size _ acc rfl (GR.Own.below ho.out HRa.out) _ 1 1 [y] rfl rfl (GR.rd_new _ hs12 (by show 40 ≤ 140737488355328; omega)) (by show (acc.length + 1) * 40 ≤ _; have := HAL.out; omega) (Below.size La.out) ?_; intro v9_ w9 ho9 hg9 hat9; obtain ⟨A9, n9, c9, rfl⟩ := own_slice ho9 (by show (acc ++ [y]).length * 40 ≤ _; rw [List.length_append]; have := HAL.out; simp; omega); obtain ⟨v9, hv9⟩ : ∃ v9, v9 = Value.slice A9 n9 c9 := ⟨_, rfl⟩; rw [← hv9] at ho9; have B9 := Lib.hid (GR.Blk.grown (GR.Blk.below BG.out HRa.out hg8) hg9 (Ne.symm (GR.own_blk_ne (GR.Own.below ho.out HRa.out) (GR.Blk.below BG.out HRa.out hg8) (by decide)))); have O9 := Lib.hid (own_far1 (j := 1) ho9 B9.out v9 (by decide)); have OS9 := Lib.hid (own_far1 (j := 1) ((GR.Own.below OS.out HRa.out).grown hg9 (own_apart (GR.Own.below OS.out HRa.out) (GR.Own.below ho.out HRa.out) (by decide))) B9.out v9 (by decide)); have HD9 := Lib.hid (own_far1 (j := 1) ((GR.Own.below HD.out HRa.out).grown hg9 (own_apart (GR.Own.below HD.out HRa.out) (GR.Own.below ho.out HRa.out) (by decide))) B9.out v9 (by decide)); have L9 := Lib.hid (Below.setCell (p := ⟨g8, 1, none⟩) (Below.grown La.out hg9 (Below.size La.out) (fun b hb => ((GR.Own.below ho.out HRa.out).lt b hb).1)) g5 v9); have p0 : w9.cell? ⟨g8, 1, none⟩ = some v := B9.out.cell 1; have p1 := B9.out.frozen 1; subst hv9; clear ho9 hg9 hat9)
                          go_roundw
                          case rel => exact ⟨i + 1, _, by omega, by go_num, Lib.hid (B9.out.set_ 1 _), Lib.hid (by rw [take_some hlt HJ.out, ← HAC.out]; exact O9.out), OS9, HD9, L9⟩
                          case measure => simp [intOf]; omega
                        | false =>
                          have HJ := Lib.hid (show jpick a b l m P[i] = some x by unfold jpick; rw [HX.out, HY.out]; simp [h2, k0, m1, hle])
                          go_wp2_with fail
                          refine (refLes_x y x _).mono ?_
                          rintro e w11 ⟨rfl, hb11⟩
                          rw [hle]
                          have HRw11 := Lib.hid (below_then HRc.out hb11)
                          have Lw11 := Lib.hid (below_then Lc.out hb11)
                          have XS11 := Lib.hid (XS.out.below hb11 XS.out.lt)
                          have XT11 := Lib.hid (XT.out.below hb11 XT.out.lt)
                          have BG11 := Lib.hid (BGc.out.below hb11 BGc.out.lt)
                          clear hb11 e0 e1 e2 e3 f0 f1 f2 f3 y0 y1 y2 y3 b0 b1
                          have e0 : w11.cell? ⟨gx, 0, none⟩ = some (.int .u32 x.d.a) := XS11.out.cell 0
                          have e1 : w11.cell? ⟨gx, 1, none⟩ = some (.int .u64 x.d.n) := XS11.out.cell 1
                          have e2 : w11.cell? ⟨gx, 2, none⟩ = some (.bool x.gone) := XS11.out.cell 2
                          have e3 : w11.cell? ⟨gx, 3, none⟩ = some (.string x.v) := XS11.out.cell 3
                          have f0 := XS11.out.frozen 0
                          have f1 := XS11.out.frozen 1
                          have f2 := XS11.out.frozen 2
                          have f3 := XS11.out.frozen 3
                          have y0 : w11.cell? ⟨gy, 0, none⟩ = some (.int .u32 y.d.a) := XT11.out.cell 0
                          have y1 : w11.cell? ⟨gy, 1, none⟩ = some (.int .u64 y.d.n) := XT11.out.cell 1
                          have y2 : w11.cell? ⟨gy, 2, none⟩ = some (.bool y.gone) := XT11.out.cell 2
                          have y3 : w11.cell? ⟨gy, 3, none⟩ = some (.string y.v) := XT11.out.cell 3
                          have b0 : w11.cell? ⟨g8, 1, none⟩ = some v := BG11.out.cell 1
                          have b1 := BG11.out.frozen 1
                          go_wp2_with (at_builtin; refine GR.app_one (K := sibK) rfl (.tmp 83) (.tmp 85) _ rfl Try.underlying23 hi0 hz0 hz1 hz2 rfl W1.heap.size _ acc x rfl (GR.Own.below ho.out HRw11.out) rfl (by show (acc.length + 1) * 40 ≤ _; have := HAL.out; omega) (Below.size Lw11.out) ?_; intro v9_ w9 ho9 hg9 hat9; obtain ⟨A9, n9, c9, rfl⟩ := own_slice ho9 (by show (acc ++ [x]).length * 40 ≤ _; rw [List.length_append]; have := HAL.out; simp; omega); obtain ⟨v9, hv9⟩ : ∃ v9, v9 = Value.slice A9 n9 c9 := ⟨_, rfl⟩; rw [← hv9] at ho9; have B9 := Lib.hid (GR.Blk.grown (GR.Blk.below BG.out HRw11.out hg8) hg9 (Ne.symm (GR.own_blk_ne (GR.Own.below ho.out HRw11.out) (GR.Blk.below BG.out HRw11.out hg8) (by decide)))); have O9 := Lib.hid (own_far1 (j := 1) ho9 B9.out v9 (by decide)); have OS9 := Lib.hid (own_far1 (j := 1) ((GR.Own.below OS.out HRw11.out).grown hg9 (own_apart (GR.Own.below OS.out HRw11.out) (GR.Own.below ho.out HRw11.out) (by decide))) B9.out v9 (by decide)); have HD9 := Lib.hid (own_far1 (j := 1) ((GR.Own.below HD.out HRw11.out).grown hg9 (own_apart (GR.Own.below HD.out HRw11.out) (GR.Own.below ho.out HRw11.out) (by decide))) B9.out v9 (by decide)); have L9 := Lib.hid (Below.setCell (p := ⟨g8, 1, none⟩) (Below.grown Lw11.out hg9 (Below.size Lw11.out) (fun b hb => ((GR.Own.below ho.out HRw11.out).lt b hb).1)) g5 v9); have p0 : w9.cell? ⟨g8, 1, none⟩ = some v := B9.out.cell 1; have p1 := B9.out.frozen 1; subst hv9; clear ho9 hg9 hat9)
                          go_roundw
                          case rel => exact ⟨i + 1, _, by omega, by go_num, Lib.hid (B9.out.set_ 1 _), Lib.hid (by rw [take_some hlt HJ.out, ← HAC.out]; exact O9.out), OS9, HD9, L9⟩
                          case measure => simp [intOf]; omega
                      · have q3 : (md == 1) = false := by simpa using m1
                        have HJ := Lib.hid (show jpick a b l m P[i] = some x by unfold jpick; rw [HX.out, HY.out]; simp [h2, m2, k0, m1])
                        go_wp2_with (at_builtin; refine GR.app_one (K := sibK) rfl (.tmp 83) (.tmp 85) _ rfl Try.underlying23 hi0 hz0 hz1 hz2 rfl W1.heap.size _ acc x rfl (GR.Own.below ho.out HRW10.out) rfl (by show (acc.length + 1) * 40 ≤ _; have := HAL.out; omega) (Below.size LW10.out) ?_; intro v9_ w9 ho9 hg9 hat9; obtain ⟨A9, n9, c9, rfl⟩ := own_slice ho9 (by show (acc ++ [x]).length * 40 ≤ _; rw [List.length_append]; have := HAL.out; simp; omega); obtain ⟨v9, hv9⟩ : ∃ v9, v9 = Value.slice A9 n9 c9 := ⟨_, rfl⟩; rw [← hv9] at ho9; have B9 := Lib.hid (GR.Blk.grown (GR.Blk.below BG.out HRW10.out hg8) hg9 (Ne.symm (GR.own_blk_ne (GR.Own.below ho.out HRW10.out) (GR.Blk.below BG.out HRW10.out hg8) (by decide)))); have O9 := Lib.hid (own_far1 (j := 1) ho9 B9.out v9 (by decide)); have OS9 := Lib.hid (own_far1 (j := 1) ((GR.Own.below OS.out HRW10.out).grown hg9 (own_apart (GR.Own.below OS.out HRW10.out) (GR.Own.below ho.out HRW10.out) (by decide))) B9.out v9 (by decide)); have HD9 := Lib.hid (own_far1 (j := 1) ((GR.Own.below HD.out HRW10.out).grown hg9 (own_apart (GR.Own.below HD.out HRW10.out) (GR.Own.below ho.out HRW10.out) (by decide))) B9.out v9 (by decide)); have L9 := Lib.hid (Below.setCell (p := ⟨g8, 1, none⟩) (Below.grown LW10.out hg9 (Below.size LW10.out) (fun b hb => ((GR.Own.below ho.out HRW10.out).lt b hb).1)) g5 v9); have p0 : w9.cell? ⟨g8, 1, none⟩ = some v := B9.out.cell 1; have p1 := B9.out.frozen 1; subst hv9; clear ho9 hg9 hat9)
                        go_roundw
                        case rel => exact ⟨i + 1, _, by omega, by go_num, Lib.hid (B9.out.set_ 1 _), Lib.hid (by rw [take_some hlt HJ.out, ← HAC.out]; exact O9.out), OS9, HD9, L9⟩
                        case measure => simp [intOf]; omega
              · skip
                go_simp
                skip
                refine hK.out _ _ ?_ (fun hHeld => ?_)
                · exact ⟨(Below.cell (p := ⟨w.heap.size + 1, 0, none⟩) (by repeat (first | exact HR2.out | refine bl_drewN ?_ _ | refine bl_drew ?_ | refine bl_alloc ?_ _ | refine Below.setCell ?_ (by simp; try omega) _)) (World.block_lt_of_cell? W8 _ KB0.out)).trans KB0.out, (Below.cell (p := ⟨w.heap.size + 1, 1, none⟩) (by repeat (first | exact HR2.out | refine bl_drewN ?_ _ | refine bl_drew ?_ | refine bl_alloc ?_ _ | refine Below.setCell ?_ (by simp; try omega) _)) (World.block_lt_of_cell? W8 _ KB1.out)).trans KB1.out, (Below.cell (p := ⟨gd, i * 2, none⟩) (by repeat (first | exact HR2.out | refine bl_drewN ?_ _ | refine bl_drew ?_ | refine bl_alloc ?_ _ | refine Below.setCell ?_ (by simp; try omega) _)) (World.block_lt_of_cell? W8 _ KD0.out)).trans KD0.out, (Below.cell (p := ⟨gd, i * 2 + 1, none⟩) (by repeat (first | exact HR2.out | refine bl_drewN ?_ _ | refine bl_drew ?_ | refine bl_alloc ?_ _ | refine Below.setCell ?_ (by simp; try omega) _)) (World.block_lt_of_cell? W8 _ KD1.out)).trans KD1.out⟩
                clear hK K
                try simp only [Act.put, List.setIfInBounds_toArray, List.set_cons_zero, List.set_cons_succ]
                refine wpAnyH_ready (rs := [5]) (by kernel_rfl) (by simp) ?_
                refine AllReadyH.cons (o := { dst := some 61, op := Op.call { callee := Callee.value (Operand.func 71), args := #[Operand.tmp 56, Operand.tmp 60], argTypes := #[25, 41] }, type := 102, pos := "ref.go:118", after := #[{ on := 0, ground := Ground.data }, { on := 4, ground := Ground.data }], guard := none }) rfl (fun K hK => ?_) (AllReadyH.nil)
                go_simp
                go_at_call 71
                refine (says_is HY.out (by repeat (first | exact HBr.out | refine GR.Rd.drewN ?_ _ | refine GR.Rd.drew ?_ | refine GR.Rd.alloc ?_ _)) (by repeat (first | exact HMr.out | refine GR.Rd.drewN ?_ _ | refine GR.Rd.drew ?_ | refine GR.Rd.alloc ?_ _)) NB.out).mono ?_
                rintro e w8 ⟨rfl, hb8⟩
                have hs8 : W8.heap.size ≤ w8.heap.size := (Below.size (bl_then (w := W8) (by repeat (first | exact HR2.out | refine bl_drewN ?_ _ | refine bl_drew ?_ | refine bl_alloc ?_ _)) hb8))
                have N_ := Lib.hid (bl_then (w := W8) (by repeat (first | exact HR2.out | refine bl_drewN ?_ _ | refine bl_drew ?_ | refine bl_alloc ?_ _)) hb8)
                clear HR2
                have HR2 := N_
                clear N_
                have XG8 : Hid (GR.Blk w8 W8.heap.size 67 #[.int .u32 0, .int .u64 0, .bool false, .string ⟨#[]⟩]) := Lib.hid (by refine GR.Blk.below ?_ hb8 ?_; exact new_at _ _ _ (by simp); simp)
                have e0 := XG8.out.cell 0
                have e1 := XG8.out.cell 1
                have e2 := XG8.out.cell 2
                have e3 := XG8.out.cell 3
                have f0 := XG8.out.frozen 0
                have f1 := XG8.out.frozen 1
                have f2 := XG8.out.frozen 2
                have f3 := XG8.out.frozen 3
                clear hb8
                refine hK.out _ _ ?_ (fun hHeld => ?_)
                · exact ⟨(Below.cell (p := ⟨w.heap.size + 1, 0, none⟩) (by repeat (first | exact HR2.out | refine bl_drewN ?_ _ | refine bl_drew ?_ | refine bl_alloc ?_ _ | refine Below.setCell ?_ (by simp; try omega) _)) (World.block_lt_of_cell? W8 _ KB0.out)).trans KB0.out, (Below.cell (p := ⟨w.heap.size + 1, 1, none⟩) (by repeat (first | exact HR2.out | refine bl_drewN ?_ _ | refine bl_drew ?_ | refine bl_alloc ?_ _ | refine Below.setCell ?_ (by simp; try omega) _)) (World.block_lt_of_cell? W8 _ KB1.out)).trans KB1.out, (Below.cell (p := ⟨gd, i * 2, none⟩) (by repeat (first | exact HR2.out | refine bl_drewN ?_ _ | refine bl_drew ?_ | refine bl_alloc ?_ _ | refine Below.setCell ?_ (by simp; try omega) _)) (World.block_lt_of_cell? W8 _ KD0.out)).trans KD0.out, (Below.cell (p := ⟨gd, i * 2 + 1, none⟩) (by repeat (first | exact HR2.out | refine bl_drewN ?_ _ | refine bl_drew ?_ | refine bl_alloc ?_ _ | refine Below.setCell ?_ (by simp; try omega) _)) (World.block_lt_of_cell? W8 _ KD1.out)).trans KD1.out⟩
                clear hK K
                try simp only [Act.put, List.setIfInBounds_toArray, List.set_cons_zero, List.set_cons_succ]
                refine wpAnyH_take (i := 6) (oi := { dst := some 55, op := Op.move (Operand.tmp 61), type := 102, pos := "ref.go:118", after := #[{ on := 5, ground := Ground.data }], guard := none }) (v := ?_) rfl (by kernel_rfl) (by kernel_rfl) (by kernel_rfl) (fun _ _ _ h => h) (Or.inl ⟨by rfl, ?_⟩) (by assumption) ?_
                rotate_left
                · intro w_ hSw; (try dsimp only at hSw); go_simp; first | done | with_reducible rfl
                try simp only [Act.put, List.setIfInBounds_toArray, List.set_cons_zero, List.set_cons_succ]
                refine wpAnyH_take (i := 7) (oi := { dst := some 62, op := Op.extract (Operand.tmp 55) 0, type := 3, pos := "ref.go:118", after := #[{ on := 6, ground := Ground.data }], guard := none }) (v := ?_) rfl (by kernel_rfl) (by kernel_rfl) (by kernel_rfl) (fun _ _ _ h => h) (Or.inl ⟨by rfl, ?_⟩) (by assumption) ?_
                rotate_left
                · intro w_ hSw; (try dsimp only at hSw); go_simp; first | done | with_reducible rfl
                try simp only [Act.put, List.setIfInBounds_toArray, List.set_cons_zero, List.set_cons_succ]
                refine wpAnyH_take (i := 8) (oi := { dst := some 63, op := Op.extract (Operand.tmp 55) 1, type := 67, pos := "ref.go:118", after := #[{ on := 6, ground := Ground.data }, { on := 10, ground := Ground.gcOnly Departure.lateStores }], guard := none }) (v := ?_) rfl (by kernel_rfl) (by kernel_rfl) (by kernel_rfl) (fun _ _ _ h => h) (Or.inl ⟨by rfl, ?_⟩) (by assumption) ?_
                rotate_left
                · intro w_ hSw; (try dsimp only at hSw); go_simp; first | done | with_reducible rfl
                try simp only [Act.put, List.setIfInBounds_toArray, List.set_cons_zero, List.set_cons_succ]
                refine wpAnyH_take (i := 10) (oi := { dst := some 13, op := Op.assign (Operand.tmp 62), type := 3, pos := "ref.go:118", after := #[{ on := 7, ground := Ground.data }, { on := 5, ground := Ground.chain }, { on := 0, ground := Ground.phase }, { on := 1, ground := Ground.phase }, { on := 2, ground := Ground.phase }, { on := 3, ground := Ground.phase }, { on := 4, ground := Ground.phase }, { on := 5, ground := Ground.phase }, { on := 6, ground := Ground.phase }, { on := 7, ground := Ground.phase }, { on := 8, ground := Ground.textOnly Departure.lateStores }, { on := 9, ground := Ground.phase }], guard := none }) (v := ?_) rfl (by kernel_rfl) (by kernel_rfl) (by kernel_rfl) (fun _ _ _ h => h) (Or.inl ⟨by rfl, ?_⟩) (by assumption) ?_
                rotate_left
                · intro w_ hSw; (try dsimp only at hSw); go_simp; first | done | with_reducible rfl
                try simp only [Act.put, List.setIfInBounds_toArray, List.set_cons_zero, List.set_cons_succ]
                refine wpAnyH_ready (rs := [11]) (by kernel_rfl) (by simp) ?_
                refine AllReadyH.cons (o := { dst := none, op := Op.store 67 (Operand.tmp 14) (Operand.tmp 63), type := 0, pos := "ref.go:118", after := #[{ on := 9, ground := Ground.data }, { on := 8, ground := Ground.data }, { on := 10, ground := Ground.chain }, { on := 0, ground := Ground.phase }, { on := 1, ground := Ground.phase }, { on := 2, ground := Ground.phase }, { on := 3, ground := Ground.phase }, { on := 4, ground := Ground.phase }, { on := 5, ground := Ground.phase }, { on := 6, ground := Ground.phase }, { on := 7, ground := Ground.phase }, { on := 8, ground := Ground.phase }, { on := 9, ground := Ground.phase }, { on := 10, ground := Ground.phase }], guard := none }) rfl (fun K hK => ?_) (AllReadyH.nil)
                go_simp
                skip
                refine hK.out _ _ ?_ (fun hHeld => ?_)
                · exact ⟨(Below.cell (p := ⟨w.heap.size + 1, 0, none⟩) (by repeat (first | exact HR2.out | refine bl_drewN ?_ _ | refine bl_drew ?_ | refine bl_alloc ?_ _ | refine Below.setCell ?_ (by simp; try omega) _)) (World.block_lt_of_cell? W8 _ KB0.out)).trans KB0.out, (Below.cell (p := ⟨w.heap.size + 1, 1, none⟩) (by repeat (first | exact HR2.out | refine bl_drewN ?_ _ | refine bl_drew ?_ | refine bl_alloc ?_ _ | refine Below.setCell ?_ (by simp; try omega) _)) (World.block_lt_of_cell? W8 _ KB1.out)).trans KB1.out, (Below.cell (p := ⟨gd, i * 2, none⟩) (by repeat (first | exact HR2.out | refine bl_drewN ?_ _ | refine bl_drew ?_ | refine bl_alloc ?_ _ | refine Below.setCell ?_ (by simp; try omega) _)) (World.block_lt_of_cell? W8 _ KD0.out)).trans KD0.out, (Below.cell (p := ⟨gd, i * 2 + 1, none⟩) (by repeat (first | exact HR2.out | refine bl_drewN ?_ _ | refine bl_drew ?_ | refine bl_alloc ?_ _ | refine Below.setCell ?_ (by simp; try omega) _)) (World.block_lt_of_cell? W8 _ KD1.out)).trans KD1.out⟩
                clear hK K
                try simp only [Act.put, List.setIfInBounds_toArray, List.set_cons_zero, List.set_cons_succ]
                refine wpAnyH_done (by kernel_rfl) ?_ _
                clear hHeld
                clear e0 e1 e2 e3 f0 f1 f2 f3
                obtain ⟨W10, h_⟩ : ∃ W10 : World, W10 = (((w8.setCell ⟨W8.heap.size, 0, none⟩ (.int .u32 y.d.a)).setCell ⟨W8.heap.size, 1, none⟩ (.int .u64 y.d.n)).setCell ⟨W8.heap.size, 2, none⟩ (.bool y.gone)).setCell ⟨W8.heap.size, 3, none⟩ (.string y.v) := ⟨_, rfl⟩
                rw [← h_]
                obtain ⟨gy, hg_⟩ : ∃ gy : Nat, gy = W8.heap.size := ⟨_, rfl⟩
                have Xgy : Hid (GR.Blk W10 gy 67 #[.int .u32 y.d.a, .int .u64 y.d.n, .bool y.gone, .string y.v]) := Lib.hid (by rw [h_, hg_]; exact GR.Blk.set_ (GR.Blk.set_ (GR.Blk.set_ (GR.Blk.set_ XG8.out 0 _) 1 _) 2 _) 3 _)
                have HW10 : Hid (Below W8.heap.size W8 W10) := Lib.hid (by rw [h_]; exact (by repeat (first | exact HR2.out | refine Below.setCell ?_ (by simp) _)))
                rw [← hg_]
                have hgy : W8.heap.size ≤ gy := by rw [hg_]; exact Nat.le_refl _
                clear h_ hg_ hs8 HR2 XG8
                have XS := Lib.hid (Xgx.out.below HW10.out Xgx.out.lt)
                have XT := Xgy
                have HRc := Lib.hid (below_then HW8.out HW10.out)
                have Lc := Lib.hid (below_then L7.out HRc.out)
                have BGc := Lib.hid (BG.out.below HRc.out hg8)
                have HOc := Lib.hid (ho.out.below HRc.out)
                have OSc := Lib.hid (OS.out.below HRc.out)
                have HDc := Lib.hid (HD.out.below HRc.out)
                clear Xgx Xgy HW8 HW10
                have hgx1 : W1.heap.size ≤ gx := Nat.le_trans L7.out.size hgx
                have ne1 : gx ≠ g8 := by omega
                have ne2 : g8 ≠ gx := by omega
                have e0 : W10.cell? ⟨gx, 0, none⟩ = some (.int .u32 x.d.a) := XS.out.cell 0
                have e1 : W10.cell? ⟨gx, 1, none⟩ = some (.int .u64 x.d.n) := XS.out.cell 1
                have e2 : W10.cell? ⟨gx, 2, none⟩ = some (.bool x.gone) := XS.out.cell 2
                have e3 : W10.cell? ⟨gx, 3, none⟩ = some (.string x.v) := XS.out.cell 3
                have f0 := XS.out.frozen 0
                have f1 := XS.out.frozen 1
                have f2 := XS.out.frozen 2
                have f3 := XS.out.frozen 3
                have y0 : W10.cell? ⟨gy, 0, none⟩ = some (.int .u32 y.d.a) := XT.out.cell 0
                have y1 : W10.cell? ⟨gy, 1, none⟩ = some (.int .u64 y.d.n) := XT.out.cell 1
                have y2 : W10.cell? ⟨gy, 2, none⟩ = some (.bool y.gone) := XT.out.cell 2
                have y3 : W10.cell? ⟨gy, 3, none⟩ = some (.string y.v) := XT.out.cell 3
                have b0 : W10.cell? ⟨g8, 1, none⟩ = some v := BGc.out.cell 1
                have b1 := BGc.out.frozen 1
                have HRW10 := HRc
                have LW10 := Lc
                by_cases h2 : kd = 2
                · subst h2
                  have HJ := Lib.hid (show jpick a b l m P[i] = none by unfold jpick; rw [HX.out, HY.out]; simp)
                  go_wp2
                  go_roundw
                  case rel => exact ⟨i + 1, v, by omega, by go_num, BGc, Lib.hid (by rw [take_none hlt HJ.out, ← HAC.out]; exact HOc.out), OSc, HDc, Lc⟩
                  case measure => simp [intOf]; omega
                · have q0 : (kd == 2) = false := by simpa using h2
                  by_cases m2 : md = 2
                  · subst m2
                    have HJ := Lib.hid (show jpick a b l m P[i] = none by unfold jpick; rw [HX.out, HY.out]; simp)
                    go_wp2
                    go_roundw
                    case rel => exact ⟨i + 1, v, by omega, by go_num, BGc, Lib.hid (by rw [take_none hlt HJ.out, ← HAC.out]; exact HOc.out), OSc, HDc, Lc⟩
                    case measure => simp [intOf]; omega
                  · have q1 : (md == 2) = false := by simpa using m2
                    by_cases k0 : kd = 0
                    · have q2 : (kd == 0) = true := by simpa using k0
                      have HJ := Lib.hid (show jpick a b l m P[i] = some y by unfold jpick; rw [HX.out, HY.out]; simp [k0, m2])
                      have XSS : Hid (GR.Blk ((((W10.setCell ⟨gx, 0, none⟩ (.int .u32 y.d.a)).setCell ⟨gx, 1, none⟩ (.int .u64 y.d.n)).setCell ⟨gx, 2, none⟩ (.bool y.gone)).setCell ⟨gx, 3, none⟩ (.string y.v)) gx 67 #[.int .u32 y.d.a, .int .u64 y.d.n, .bool y.gone, .string y.v]) := Lib.hid (GR.Blk.set_ (GR.Blk.set_ (GR.Blk.set_ (GR.Blk.set_ XS.out 0 _) 1 _) 2 _) 3 _)
                      have b2 : ((((W10.setCell ⟨gx, 0, none⟩ (.int .u32 y.d.a)).setCell ⟨gx, 1, none⟩ (.int .u64 y.d.n)).setCell ⟨gx, 2, none⟩ (.bool y.gone)).setCell ⟨gx, 3, none⟩ (.string y.v)).cell? ⟨g8, 1, none⟩ = some v := (set4_far _ _ _ _ _ _ (q := ⟨g8, 1, none⟩) ne2).trans b0
                      have HRs : Hid (Below wr.heap.size wr ((((W10.setCell ⟨gx, 0, none⟩ (.int .u32 y.d.a)).setCell ⟨gx, 1, none⟩ (.int .u64 y.d.n)).setCell ⟨gx, 2, none⟩ (.bool y.gone)).setCell ⟨gx, 3, none⟩ (.string y.v))) := Lib.hid (Below.setCell (Below.setCell (Below.setCell (Below.setCell HRW10.out hgx _) hgx _) hgx _) hgx _)
                      have Ls : Hid (Below W1.heap.size W1 ((((W10.setCell ⟨gx, 0, none⟩ (.int .u32 y.d.a)).setCell ⟨gx, 1, none⟩ (.int .u64 y.d.n)).setCell ⟨gx, 2, none⟩ (.bool y.gone)).setCell ⟨gx, 3, none⟩ (.string y.v))) := Lib.hid (Below.setCell (Below.setCell (Below.setCell (Below.setCell LW10.out hgx1 _) hgx1 _) hgx1 _) hgx1 _)
                      have z0 : ((((W10.setCell ⟨gx, 0, none⟩ (.int .u32 y.d.a)).setCell ⟨gx, 1, none⟩ (.int .u64 y.d.n)).setCell ⟨gx, 2, none⟩ (.bool y.gone)).setCell ⟨gx, 3, none⟩ (.string y.v)).cell? ⟨gx, 0, none⟩ = some (.int .u32 y.d.a) := XSS.out.cell 0
                      have z1 : ((((W10.setCell ⟨gx, 0, none⟩ (.int .u32 y.d.a)).setCell ⟨gx, 1, none⟩ (.int .u64 y.d.n)).setCell ⟨gx, 2, none⟩ (.bool y.gone)).setCell ⟨gx, 3, none⟩ (.string y.v)).cell? ⟨gx, 1, none⟩ = some (.int .u64 y.d.n) := XSS.out.cell 1
                      have z2 : ((((W10.setCell ⟨gx, 0, none⟩ (.int .u32 y.d.a)).setCell ⟨gx, 1, none⟩ (.int .u64 y.d.n)).setCell ⟨gx, 2, none⟩ (.bool y.gone)).setCell ⟨gx, 3, none⟩ (.string y.v)).cell? ⟨gx, 2, none⟩ = some (.bool y.gone) := XSS.out.cell 2
                      have z3 : ((((W10.setCell ⟨gx, 0, none⟩ (.int .u32 y.d.a)).setCell ⟨gx, 1, none⟩ (.int .u64 y.d.n)).setCell ⟨gx, 2, none⟩ (.bool y.gone)).setCell ⟨gx, 3, none⟩ (.string y.v)).cell? ⟨gx, 3, none⟩ = some (.string y.v) := XSS.out.cell 3
                      go_wp2_with (at_builtin; obtain ⟨W12, hW12⟩ : ∃ W12 : World, W12 = (((W10.setCell ⟨gx, 0, none⟩ (.int .u32 y.d.a)).setCell ⟨gx, 1, none⟩ (.int .u64 y.d.n)).setCell ⟨gx, 2, none⟩ (.bool y.gone)).setCell ⟨gx, 3, none⟩ (.string y.v) := ⟨_, rfl⟩; rw [← hW12] at HRs Ls ⊢; have hs12 : W12.heap.size = W10.heap.size := (by rw [hW12]; simp [World.setCell]); have HRa := Lib.hid (bl_alloc HRs.out (.cells #[.int .u32 y.d.a, .int .u64 y.d.n, .bool y.gone, .string y.v] 67)); have La := Lib.hid (bl_alloc Ls.out (.cells #[.int .u32 y.d.a, .int .u64 y.d.n, .bool y.gone, .string y.v] 67)); refine GR.app_all (K := sibK) rfl (.tmp 83) (.tmp 85) _ rfl Try.underlying23 hi0 hz0 hz1 hz2 rfl W1.heap.size _ acc rfl (GR.Own.below ho.out HRa.out) _ 1 1 [y] rfl rfl (GR.rd_new _ hs12 (by show 40 ≤ 140737488355328; omega)) (by show (acc.length + 1) * 40 ≤ _; have := HAL.out; omega) (Below.size La.out) ?_; intro v9_ w9 ho9 hg9 hat9; obtain ⟨A9, n9, c9, rfl⟩ := own_slice ho9 (by show (acc ++ [y]).length * 40 ≤ _; rw [List.length_append]; have := HAL.out; simp; omega); obtain ⟨v9, hv9⟩ : ∃ v9, v9 = Value.slice A9 n9 c9 := ⟨_, rfl⟩; rw [← hv9] at ho9; have B9 := Lib.hid (GR.Blk.grown (GR.Blk.below BG.out HRa.out hg8) hg9 (Ne.symm (GR.own_blk_ne (GR.Own.below ho.out HRa.out) (GR.Blk.below BG.out HRa.out hg8) (by decide)))); have O9 := Lib.hid (own_far1 (j := 1) ho9 B9.out v9 (by decide)); have OS9 := Lib.hid (own_far1 (j := 1) ((GR.Own.below OS.out HRa.out).grown hg9 (own_apart (GR.Own.below OS.out HRa.out) (GR.Own.below ho.out HRa.out) (by decide))) B9.out v9 (by decide)); have HD9 := Lib.hid (own_far1 (j := 1) ((GR.Own.below HD.out HRa.out).grown hg9 (own_apart (GR.Own.below HD.out HRa.out) (GR.Own.below ho.out HRa.out) (by decide))) B9.out v9 (by decide)); have L9 := Lib.hid (Below.setCell (p := ⟨g8, 1, none⟩) (Below.grown La.out hg9 (Below.size La.out) (fun b hb => ((GR.Own.below ho.out HRa.out).lt b hb).1)) g5 v9); have p0 : w9.cell? ⟨g8, 1, none⟩ = some v := B9.out.cell 1; have p1 := B9.out.frozen 1; subst hv9; clear ho9 hg9 hat9)
                      go_roundw
                      case rel => exact ⟨i + 1, _, by omega, by go_num, Lib.hid (B9.out.set_ 1 _), Lib.hid (by rw [take_some hlt HJ.out, ← HAC.out]; exact O9.out), OS9, HD9, L9⟩
                      case measure => simp [intOf]; omega
                    · have q2 : (kd == 0) = false := by simpa using k0
                      by_cases m1 : md = 1
                      · have q3 : (md == 1) = true := by simpa using m1
                        cases hle : lesB y x with
                        | true =>
                          have HJ := Lib.hid (show jpick a b l m P[i] = some y by unfold jpick; rw [HX.out, HY.out]; simp [h2, m1, hle])
                          go_wp2_with fail
                          refine (refLes_x y x _).mono ?_
                          rintro e w11 ⟨rfl, hb11⟩
                          rw [hle]
                          have HRw11 := Lib.hid (below_then HRc.out hb11)
                          have Lw11 := Lib.hid (below_then Lc.out hb11)
                          have XS11 := Lib.hid (XS.out.below hb11 XS.out.lt)
                          have XT11 := Lib.hid (XT.out.below hb11 XT.out.lt)
                          have BG11 := Lib.hid (BGc.out.below hb11 BGc.out.lt)
                          clear hb11 e0 e1 e2 e3 f0 f1 f2 f3 y0 y1 y2 y3 b0 b1
                          have e0 : w11.cell? ⟨gx, 0, none⟩ = some (.int .u32 x.d.a) := XS11.out.cell 0
                          have e1 : w11.cell? ⟨gx, 1, none⟩ = some (.int .u64 x.d.n) := XS11.out.cell 1
                          have e2 : w11.cell? ⟨gx, 2, none⟩ = some (.bool x.gone) := XS11.out.cell 2
                          have e3 : w11.cell? ⟨gx, 3, none⟩ = some (.string x.v) := XS11.out.cell 3
                          have f0 := XS11.out.frozen 0
                          have f1 := XS11.out.frozen 1
                          have f2 := XS11.out.frozen 2
                          have f3 := XS11.out.frozen 3
                          have y0 : w11.cell? ⟨gy, 0, none⟩ = some (.int .u32 y.d.a) := XT11.out.cell 0
                          have y1 : w11.cell? ⟨gy, 1, none⟩ = some (.int .u64 y.d.n) := XT11.out.cell 1
                          have y2 : w11.cell? ⟨gy, 2, none⟩ = some (.bool y.gone) := XT11.out.cell 2
                          have y3 : w11.cell? ⟨gy, 3, none⟩ = some (.string y.v) := XT11.out.cell 3
                          have b0 : w11.cell? ⟨g8, 1, none⟩ = some v := BG11.out.cell 1
                          have b1 := BG11.out.frozen 1
                          have XSS : Hid (GR.Blk ((((w11.setCell ⟨gx, 0, none⟩ (.int .u32 y.d.a)).setCell ⟨gx, 1, none⟩ (.int .u64 y.d.n)).setCell ⟨gx, 2, none⟩ (.bool y.gone)).setCell ⟨gx, 3, none⟩ (.string y.v)) gx 67 #[.int .u32 y.d.a, .int .u64 y.d.n, .bool y.gone, .string y.v]) := Lib.hid (GR.Blk.set_ (GR.Blk.set_ (GR.Blk.set_ (GR.Blk.set_ XS11.out 0 _) 1 _) 2 _) 3 _)
                          have b2 : ((((w11.setCell ⟨gx, 0, none⟩ (.int .u32 y.d.a)).setCell ⟨gx, 1, none⟩ (.int .u64 y.d.n)).setCell ⟨gx, 2, none⟩ (.bool y.gone)).setCell ⟨gx, 3, none⟩ (.string y.v)).cell? ⟨g8, 1, none⟩ = some v := (set4_far _ _ _ _ _ _ (q := ⟨g8, 1, none⟩) ne2).trans b0
                          have HRs : Hid (Below wr.heap.size wr ((((w11.setCell ⟨gx, 0, none⟩ (.int .u32 y.d.a)).setCell ⟨gx, 1, none⟩ (.int .u64 y.d.n)).setCell ⟨gx, 2, none⟩ (.bool y.gone)).setCell ⟨gx, 3, none⟩ (.string y.v))) := Lib.hid (Below.setCell (Below.setCell (Below.setCell (Below.setCell HRw11.out hgx _) hgx _) hgx _) hgx _)
                          have Ls : Hid (Below W1.heap.size W1 ((((w11.setCell ⟨gx, 0, none⟩ (.int .u32 y.d.a)).setCell ⟨gx, 1, none⟩ (.int .u64 y.d.n)).setCell ⟨gx, 2, none⟩ (.bool y.gone)).setCell ⟨gx, 3, none⟩ (.string y.v))) := Lib.hid (Below.setCell (Below.setCell (Below.setCell (Below.setCell Lw11.out hgx1 _) hgx1 _) hgx1 _) hgx1 _)
                          have z0 : ((((w11.setCell ⟨gx, 0, none⟩ (.int .u32 y.d.a)).setCell ⟨gx, 1, none⟩ (.int .u64 y.d.n)).setCell ⟨gx, 2, none⟩ (.bool y.gone)).setCell ⟨gx, 3, none⟩ (.string y.v)).cell? ⟨gx, 0, none⟩ = some (.int .u32 y.d.a) := XSS.out.cell 0
                          have z1 : ((((w11.setCell ⟨gx, 0, none⟩ (.int .u32 y.d.a)).setCell ⟨gx, 1, none⟩ (.int .u64 y.d.n)).setCell ⟨gx, 2, none⟩ (.bool y.gone)).setCell ⟨gx, 3, none⟩ (.string y.v)).cell? ⟨gx, 1, none⟩ = some (.int .u64 y.d.n) := XSS.out.cell 1
                          have z2 : ((((w11.setCell ⟨gx, 0, none⟩ (.int .u32 y.d.a)).setCell ⟨gx, 1, none⟩ (.int .u64 y.d.n)).setCell ⟨gx, 2, none⟩ (.bool y.gone)).setCell ⟨gx, 3, none⟩ (.string y.v)).cell? ⟨gx, 2, none⟩ = some (.bool y.gone) := XSS.out.cell 2
                          have z3 : ((((w11.setCell ⟨gx, 0, none⟩ (.int .u32 y.d.a)).setCell ⟨gx, 1, none⟩ (.int .u64 y.d.n)).setCell ⟨gx, 2, none⟩ (.bool y.gone)).setCell ⟨gx, 3, none⟩ (.string y.v)).cell? ⟨gx, 3, none⟩ = some (.string y.v) := XSS.out.cell 3
                          go_wp2_with (at_builtin; obtain ⟨W12, hW12⟩ : ∃ W12 : World, W12 = (((w11.setCell ⟨gx, 0, none⟩ (.int .u32 y.d.a)).setCell ⟨gx, 1, none⟩ (.int .u64 y.d.n)).setCell ⟨gx, 2, none⟩ (.bool y.gone)).setCell ⟨gx, 3, none⟩ (.string y.v) := ⟨_, rfl⟩; rw [← hW12] at HRs Ls ⊢; have hs12 : W12.heap.size = w11.heap.size := (by rw [hW12]; simp [World.setCell]); have HRa := Lib.hid (bl_alloc HRs.out (.cells #[.int .u32 y.d.a, .int .u64 y.d.n, .bool y.gone, .string y.v] 67)); have La := Lib.hid (bl_alloc Ls.out (.cells #[.int .u32 y.d.a, .int .u64 y.d.n, .bool y.gone, .string y.v] 67)); refine GR.app_all (K := sibK) rfl (.tmp 83) (.tmp 85) _ rfl Try.underlying23 hi0 hz0 hz1 hz2 rfl W1.heap.size _ acc rfl (GR.Own.below ho.out HRa.out) _ 1 1 [y] rfl rfl (GR.rd_new _ hs12 (by show 40 ≤ 140737488355328; omega)) (by show (acc.length + 1) * 40 ≤ _; have := HAL.out; omega) (Below.size La.out) ?_; intro v9_ w9 ho9 hg9 hat9; obtain ⟨A9, n9, c9, rfl⟩ := own_slice ho9 (by show (acc ++ [y]).length * 40 ≤ _; rw [List.length_append]; have := HAL.out; simp; omega); obtain ⟨v9, hv9⟩ : ∃ v9, v9 = Value.slice A9 n9 c9 := ⟨_, rfl⟩; rw [← hv9] at ho9; have B9 := Lib.hid (GR.Blk.grown (GR.Blk.below BG.out HRa.out hg8) hg9 (Ne.symm (GR.own_blk_ne (GR.Own.below ho.out HRa.out) (GR.Blk.below BG.out HRa.out hg8) (by decide)))); have O9 := Lib.hid (own_far1 (j := 1) ho9 B9.out v9 (by decide)); have OS9 := Lib.hid (own_far1 (j := 1) ((GR.Own.below OS.out HRa.out).grown hg9 (own_apart (GR.Own.below OS.out HRa.out) (GR.Own.below ho.out HRa.out) (by decide))) B9.out v9 (by decide)); have HD9 := Lib.hid (own_far1 (j := 1) ((GR.Own.below HD.out HRa.out).grown hg9 (own_apart (GR.Own.below HD.out HRa.out) (GR.Own.below ho.out HRa.out) (by decide))) B9.out v9 (by decide)); have L9 := Lib.hid (Below.setCell (p := ⟨g8, 1, none⟩) (Below.grown La.out hg9 (Below.size La.out) (fun b hb => ((GR.Own.below ho.out HRa.out).lt b hb).1)) g5 v9); have p0 : w9.cell? ⟨g8, 1, none⟩ = some v := B9.out.cell 1; have p1 := B9.out.frozen 1; subst hv9; clear ho9 hg9 hat9)
                          go_roundw
                          case rel => exact ⟨i + 1, _, by omega, by go_num, Lib.hid (B9.out.set_ 1 _), Lib.hid (by rw [take_some hlt HJ.out, ← HAC.out]; exact O9.out), OS9, HD9, L9⟩
                          case measure => simp [intOf]; omega
                        | false =>
                          have HJ := Lib.hid (show jpick a b l m P[i] = some x by unfold jpick; rw [HX.out, HY.out]; simp [h2, k0, m1, hle])
                          go_wp2_with fail
                          refine (refLes_x y x _).mono ?_
                          rintro e w11 ⟨rfl, hb11⟩
                          rw [hle]
                          have HRw11 := Lib.hid (below_then HRc.out hb11)
                          have Lw11 := Lib.hid (below_then Lc.out hb11)
                          have XS11 := Lib.hid (XS.out.below hb11 XS.out.lt)
                          have XT11 := Lib.hid (XT.out.below hb11 XT.out.lt)
                          have BG11 := Lib.hid (BGc.out.below hb11 BGc.out.lt)
                          clear hb11 e0 e1 e2 e3 f0 f1 f2 f3 y0 y1 y2 y3 b0 b1
                          have e0 : w11.cell? ⟨gx, 0, none⟩ = some (.int .u32 x.d.a) := XS11.out.cell 0
                          have e1 : w11.cell? ⟨gx, 1, none⟩ = some (.int .u64 x.d.n) := XS11.out.cell 1
                          have e2 : w11.cell? ⟨gx, 2, none⟩ = some (.bool x.gone) := XS11.out.cell 2
                          have e3 : w11.cell? ⟨gx, 3, none⟩ = some (.string x.v) := XS11.out.cell 3
                          have f0 := XS11.out.frozen 0
                          have f1 := XS11.out.frozen 1
                          have f2 := XS11.out.frozen 2
                          have f3 := XS11.out.frozen 3
                          have y0 : w11.cell? ⟨gy, 0, none⟩ = some (.int .u32 y.d.a) := XT11.out.cell 0
                          have y1 : w11.cell? ⟨gy, 1, none⟩ = some (.int .u64 y.d.n) := XT11.out.cell 1
                          have y2 : w11.cell? ⟨gy, 2, none⟩ = some (.bool y.gone) := XT11.out.cell 2
                          have y3 : w11.cell? ⟨gy, 3, none⟩ = some (.string y.v) := XT11.out.cell 3
                          have b0 : w11.cell? ⟨g8, 1, none⟩ = some v := BG11.out.cell 1
                          have b1 := BG11.out.frozen 1
                          go_wp2_with (at_builtin; refine GR.app_one (K := sibK) rfl (.tmp 83) (.tmp 85) _ rfl Try.underlying23 hi0 hz0 hz1 hz2 rfl W1.heap.size _ acc x rfl (GR.Own.below ho.out HRw11.out) rfl (by show (acc.length + 1) * 40 ≤ _; have := HAL.out; omega) (Below.size Lw11.out) ?_; intro v9_ w9 ho9 hg9 hat9; obtain ⟨A9, n9, c9, rfl⟩ := own_slice ho9 (by show (acc ++ [x]).length * 40 ≤ _; rw [List.length_append]; have := HAL.out; simp; omega); obtain ⟨v9, hv9⟩ : ∃ v9, v9 = Value.slice A9 n9 c9 := ⟨_, rfl⟩; rw [← hv9] at ho9; have B9 := Lib.hid (GR.Blk.grown (GR.Blk.below BG.out HRw11.out hg8) hg9 (Ne.symm (GR.own_blk_ne (GR.Own.below ho.out HRw11.out) (GR.Blk.below BG.out HRw11.out hg8) (by decide)))); have O9 := Lib.hid (own_far1 (j := 1) ho9 B9.out v9 (by decide)); have OS9 := Lib.hid (own_far1 (j := 1) ((GR.Own.below OS.out HRw11.out).grown hg9 (own_apart (GR.Own.below OS.out HRw11.out) (GR.Own.below ho.out HRw11.out) (by decide))) B9.out v9 (by decide)); have HD9 := Lib.hid (own_far1 (j := 1) ((GR.Own.below HD.out HRw11.out).grown hg9 (own_apart (GR.Own.below HD.out HRw11.out) (GR.Own.below ho.out HRw11.out) (by decide))) B9.out v9 (by decide)); have L9 := Lib.hid (Below.setCell (p := ⟨g8, 1, none⟩) (Below.grown Lw11.out hg9 (Below.size Lw11.out) (fun b hb => ((GR.Own.below ho.out HRw11.out).lt b hb).1)) g5 v9); have p0 : w9.cell? ⟨g8, 1, none⟩ = some v := B9.out.cell 1; have p1 := B9.out.frozen 1; subst hv9; clear ho9 hg9 hat9)
                          go_roundw
                          case rel => exact ⟨i + 1, _, by omega, by go_num, Lib.hid (B9.out.set_ 1 _), Lib.hid (by rw [take_some hlt HJ.out, ← HAC.out]; exact O9.out), OS9, HD9, L9⟩
                          case measure => simp [intOf]; omega
                      · have q3 : (md == 1) = false := by simpa using m1
                        have HJ := Lib.hid (show jpick a b l m P[i] = some x by unfold jpick; rw [HX.out, HY.out]; simp [h2, m2, k0, m1])
                        go_wp2_with (at_builtin; refine GR.app_one (K := sibK) rfl (.tmp 83) (.tmp 85) _ rfl Try.underlying23 hi0 hz0 hz1 hz2 rfl W1.heap.size _ acc x rfl (GR.Own.below ho.out HRW10.out) rfl (by show (acc.length + 1) * 40 ≤ _; have := HAL.out; omega) (Below.size LW10.out) ?_; intro v9_ w9 ho9 hg9 hat9; obtain ⟨A9, n9, c9, rfl⟩ := own_slice ho9 (by show (acc ++ [x]).length * 40 ≤ _; rw [List.length_append]; have := HAL.out; simp; omega); obtain ⟨v9, hv9⟩ : ∃ v9, v9 = Value.slice A9 n9 c9 := ⟨_, rfl⟩; rw [← hv9] at ho9; have B9 := Lib.hid (GR.Blk.grown (GR.Blk.below BG.out HRW10.out hg8) hg9 (Ne.symm (GR.own_blk_ne (GR.Own.below ho.out HRW10.out) (GR.Blk.below BG.out HRW10.out hg8) (by decide)))); have O9 := Lib.hid (own_far1 (j := 1) ho9 B9.out v9 (by decide)); have OS9 := Lib.hid (own_far1 (j := 1) ((GR.Own.below OS.out HRW10.out).grown hg9 (own_apart (GR.Own.below OS.out HRW10.out) (GR.Own.below ho.out HRW10.out) (by decide))) B9.out v9 (by decide)); have HD9 := Lib.hid (own_far1 (j := 1) ((GR.Own.below HD.out HRW10.out).grown hg9 (own_apart (GR.Own.below HD.out HRW10.out) (GR.Own.below ho.out HRW10.out) (by decide))) B9.out v9 (by decide)); have L9 := Lib.hid (Below.setCell (p := ⟨g8, 1, none⟩) (Below.grown LW10.out hg9 (Below.size LW10.out) (fun b hb => ((GR.Own.below ho.out HRW10.out).lt b hb).1)) g5 v9); have p0 : w9.cell? ⟨g8, 1, none⟩ = some v := B9.out.cell 1; have p1 := B9.out.frozen 1; subst hv9; clear ho9 hg9 hat9)
                        go_roundw
                        case rel => exact ⟨i + 1, _, by omega, by go_num, Lib.hid (B9.out.set_ 1 _), Lib.hid (by rw [take_some hlt HJ.out, ← HAC.out]; exact O9.out), OS9, HD9, L9⟩
                        case measure => simp [intOf]; omega

          · obtain rfl : i = P.length := by omega
            have HE := Lib.hid (show sjoin (cov a) (cov b) l m = (P.take P.length).filterMap (jpick a b l m) by rw [List.take_length]; exact HPJ.out.symm)
            obtain ⟨acc, hacc⟩ : ∃ acc, acc = (P.take P.length).filterMap (jpick a b l m) := ⟨_, rfl⟩
            have hal : acc.length ≤ 128 := by rw [hacc]; exact Nat.le_trans (List.length_filterMap_le _ _) (by have := HMD.out; simp; omega)
            rw [← hacc] at HE ho
            clear hacc
            obtain ⟨Av, cv, ev, _, _⟩ := ho.out.rd' (by show acc.length * 40 ≤ _; omega)
            subst ev
            have b0 : wr.cell? ⟨g8, 0, none⟩ = some (.slice As (vmax a b).length cs) := BG.out.cell 0
            have b1 : wr.cell? ⟨g8, 1, none⟩ = some (.slice Av acc.length cv) := BG.out.cell 1
            have hwg2 : w.heap.size + 1 + 1 < wr.heap.size := (XR.out.below L7.out XR.out.lt).lt
            by_cases h64 : acc.length ≤ 64
            · have g0 : decide (64 < (acc.length : Int)) = false := by simp; omega
              have g1 : decide (64 < acc.length) = false := by simp; omega
              have HV := Lib.hid (join_ok H1.out H2.out HX64.out (by rw [HE.out]; exact h64))
              clear h64
              have r0 : wr.cell? ⟨w.heap.size + 1 + 1, 0, none⟩ = some (.slice none 0 0) := (XR.out.below L7.out XR.out.lt).cell 0
              have r1 : wr.cell? ⟨w.heap.size + 1 + 1, 1, none⟩ = some (.slice none 0 0) := (XR.out.below L7.out XR.out.lt).cell 1
              have r2 := (XR.out.below L7.out XR.out.lt).frozen 0
              have r3 := (XR.out.below L7.out XR.out.lt).frozen 1
              go_wp2
              try rw [Exit.noGoto_ret]
              exact bodyPost_ret (v := .tuple #[.agg #[.slice As (vmax a b).length cs, .slice Av acc.length cv], .int .i64 0]) (by simp [results, Try.results33, go_sem, r0, r1, r2, r3]) rfl ⟨_, _, ret_st HV.out.1.symm, by rw [HV.out.2.1]; exact own_set2 (OS.out.base LW.out.size) XR.out L7.out, by rw [HV.out.2.2, HE.out]; exact own_set2 (ho.out.base LW.out.size) XR.out L7.out, (by repeat (first | exact bl_then LW.out L7.out | refine bl_drewN ?_ _ | refine bl_drew ?_ | refine bl_alloc ?_ _ | refine Below.setCell ?_ (by simp; omega) _))⟩
            · have g0 : decide (64 < (acc.length : Int)) = true := by simp; omega
              have g1 : decide (64 < acc.length) = true := by simp; omega
              have HV := Lib.hid (join_big H1.out H2.out (.inr (by rw [HE.out]; omega)))
              clear h64
              have r0 : wr.cell? ⟨w.heap.size + 1 + 1, 0, none⟩ = some (.slice none 0 0) := (XR.out.below L7.out XR.out.lt).cell 0
              have r1 : wr.cell? ⟨w.heap.size + 1 + 1, 1, none⟩ = some (.slice none 0 0) := (XR.out.below L7.out XR.out.lt).cell 1
              have r2 := (XR.out.below L7.out XR.out.lt).frozen 0
              have r3 := (XR.out.below L7.out XR.out.lt).frozen 1
              go_wp2
              try rw [Exit.noGoto_ret]
              exact bodyPost_ret (v := .tuple #[.agg #[.slice none 0 0, .slice none 0 0], .int .i64 82]) (by simp [results, Try.results33, go_sem, r0, r1, r2, r3]) rfl ⟨_, _, ret_st HV.out.1.symm, by rw [HV.out.2.1]; exact GR.Own.nil _ _ _, by rw [HV.out.2.2]; exact GR.Own.nil _ _ _, (by repeat (first | exact bl_then LW.out L7.out | refine bl_drewN ?_ _ | refine bl_drew ?_ | refine bl_alloc ?_ _ | refine Below.setCell ?_ (by simp; omega) _))⟩

      · rw [hxe]
        have HV := Lib.hid (join_big H1.out H2.out (.inl hx64))
        clear hxe hx64 OS0
        have s0 : w4.cell? ⟨w.heap.size, 0, none⟩ = some (.slice A a.length c1) := (XA.out.below L4.out XA.out.lt).cell 0
        have s1 : w4.cell? ⟨w.heap.size, 1, none⟩ = some (.slice B l.length c2) := (XA.out.below L4.out XA.out.lt).cell 1
        have t0 : w4.cell? ⟨w.heap.size + 1, 0, none⟩ = some (.slice C b.length c3) := (XB.out.below L4.out XB.out.lt).cell 0
        have t1 : w4.cell? ⟨w.heap.size + 1, 1, none⟩ = some (.slice D m.length c4) := (XB.out.below L4.out XB.out.lt).cell 1
        have r0 : w4.cell? ⟨w.heap.size + 1 + 1, 0, none⟩ = some (.slice none 0 0) := (XR.out.below L4.out XR.out.lt).cell 0
        have r1 : w4.cell? ⟨w.heap.size + 1 + 1, 1, none⟩ = some (.slice none 0 0) := (XR.out.below L4.out XR.out.lt).cell 1
        have r2 := (XR.out.below L4.out XR.out.lt).frozen 0
        have r3 := (XR.out.below L4.out XR.out.lt).frozen 1
        go_wp2
        try rw [Exit.noGoto_ret]
        exact bodyPost_ret (v := .tuple #[.agg #[.slice none 0 0, .slice none 0 0], .int .i64 82]) (by simp [results, Try.results33, go_sem, r0, r1, r2, r3]) rfl ⟨_, _, ret_st HV.out.1.symm, by rw [HV.out.2.1]; exact GR.Own.nil _ _ _, by rw [HV.out.2.2]; exact GR.Own.nil _ _ _, (by repeat (first | exact bl_then LW.out L4.out | refine bl_drewN ?_ _ | refine bl_drew ?_ | refine bl_alloc ?_ _ | refine Below.setCell ?_ (by simp; omega) _))⟩
    · have h2' : staB b m = false := by simpa using h2
      have HV := Lib.hid (join_bad (a := a) (l := l) (.inr h2'))
      refine (refSta_any _ _ _ _ b m _ (HB.out.below (bl_then LW.out L2.out)) (HM.out.below (bl_then LW.out L2.out)) NB.out NM.out).mono ?_
      rintro e w3 ⟨rfl, L3_⟩
      rw [h2']
      have L3 := Lib.hid (bl_then L2.out L3_)
      clear L3_ h1 h2 s0 s1 t0 t1 L2
      have s0 : w3.cell? ⟨w.heap.size, 0, none⟩ = some (.slice A a.length c1) := (XA.out.below L3.out XA.out.lt).cell 0
      have s1 : w3.cell? ⟨w.heap.size, 1, none⟩ = some (.slice B l.length c2) := (XA.out.below L3.out XA.out.lt).cell 1
      have t0 : w3.cell? ⟨w.heap.size + 1, 0, none⟩ = some (.slice C b.length c3) := (XB.out.below L3.out XB.out.lt).cell 0
      have t1 : w3.cell? ⟨w.heap.size + 1, 1, none⟩ = some (.slice D m.length c4) := (XB.out.below L3.out XB.out.lt).cell 1
      have r0 : w3.cell? ⟨w.heap.size + 1 + 1, 0, none⟩ = some (.slice none 0 0) := (XR.out.below L3.out XR.out.lt).cell 0
      have r1 : w3.cell? ⟨w.heap.size + 1 + 1, 1, none⟩ = some (.slice none 0 0) := (XR.out.below L3.out XR.out.lt).cell 1
      have r2 := (XR.out.below L3.out XR.out.lt).frozen 0
      have r3 := (XR.out.below L3.out XR.out.lt).frozen 1
      go_wp2
      try rw [Exit.noGoto_ret]
      exact bodyPost_ret (v := .tuple #[.agg #[.slice none 0 0, .slice none 0 0], .int .i64 110]) (by simp [results, Try.results33, go_sem, r0, r1, r2, r3]) rfl ⟨_, _, ret_st HV.out.1.symm, by rw [HV.out.2.1]; exact GR.Own.nil _ _ _, by rw [HV.out.2.2]; exact GR.Own.nil _ _ _, (by repeat (first | exact bl_then LW.out L3.out | refine bl_drewN ?_ _ | refine bl_drew ?_ | refine bl_alloc ?_ _ | refine Below.setCell ?_ (by simp; omega) _))⟩
  · have h1' : staB a l = false := by simpa using h1
    have HV := Lib.hid (join_bad (b := b) (m := m) (.inl h1'))
    refine (refSta_any _ _ _ _ a l _ (HA.out.below LW.out) (HL.out.below LW.out) NA.out NL.out).mono ?_
    rintro e w2 ⟨rfl, L2_⟩
    rw [h1']
    have L2 := Lib.hid L2_
    clear L2_ h1
    have s0 : w2.cell? ⟨w.heap.size, 0, none⟩ = some (.slice A a.length c1) := (XA.out.below L2.out XA.out.lt).cell 0
    have s1 : w2.cell? ⟨w.heap.size, 1, none⟩ = some (.slice B l.length c2) := (XA.out.below L2.out XA.out.lt).cell 1
    have t0 : w2.cell? ⟨w.heap.size + 1, 0, none⟩ = some (.slice C b.length c3) := (XB.out.below L2.out XB.out.lt).cell 0
    have t1 : w2.cell? ⟨w.heap.size + 1, 1, none⟩ = some (.slice D m.length c4) := (XB.out.below L2.out XB.out.lt).cell 1
    have r0 : w2.cell? ⟨w.heap.size + 1 + 1, 0, none⟩ = some (.slice none 0 0) := (XR.out.below L2.out XR.out.lt).cell 0
    have r1 : w2.cell? ⟨w.heap.size + 1 + 1, 1, none⟩ = some (.slice none 0 0) := (XR.out.below L2.out XR.out.lt).cell 1
    have r2 := (XR.out.below L2.out XR.out.lt).frozen 0
    have r3 := (XR.out.below L2.out XR.out.lt).frozen 1
    go_wp2
    try rw [Exit.noGoto_ret]
    exact bodyPost_ret (v := .tuple #[.agg #[.slice none 0 0, .slice none 0 0], .int .i64 110]) (by simp [results, Try.results33, go_sem, r0, r1, r2, r3]) rfl ⟨_, _, ret_st HV.out.1.symm, by rw [HV.out.2.1]; exact GR.Own.nil _ _ _, by rw [HV.out.2.2]; exact GR.Own.nil _ _ _, (by repeat (first | exact bl_then LW.out L2.out | refine bl_drewN ?_ _ | refine bl_drew ?_ | refine bl_alloc ?_ _ | refine Below.setCell ?_ (by simp; omega) _))⟩
end Go.Proofs.Ytljfigikkajlnaa
