/- DERIVED. What the document says of a dot. -/
import Derived.Test.YtljfigikkajlnaaVm9
import Derived.Test.YtljfigikkajlnaaVm11
import Derived.Test.YtljfigikkajlnaaVDvValid
namespace Go.Proofs.Ytljfigikkajlnaa
open Go.RowKit
set_option linter.unusedVariables false
set_option linter.unusedSimpArgs false
attribute [local go_sem high] eqD
theorem find_take {l : List Sib} {k : Nat} {d : Dot} (h : ∀ x ∈ l.take k, x.d ≠ d) (hk : k < l.length) (he : l[k].d = d) (a : List Dot) : says a l d = (1, l[k]) := by
  have : l.find? (fun x => decide (x.d = d)) = some l[k] := by
    conv => lhs; rw [← List.take_append_drop k l]
    rw [List.find?_append, List.find?_eq_none.2 (fun x hx => by simpa using h x hx), List.drop_eq_getElem_cons hk, Option.none_or, List.find?_cons_of_pos (by simp [he])]
  unfold says
  rw [this]
theorem find_none {l : List Sib} {d : Dot} (h : ∀ x ∈ l.take l.length, x.d ≠ d) (a : List Dot) : (cov a d = true → says a l d = (2, zeroS)) ∧ (cov a d = false → says a l d = (0, zeroS)) := by
  rw [List.take_length] at h
  have := says_not (a := a) h
  exact ⟨fun hc => by rw [this, hc]; rfl, fun hc => by rw [this, hc]; rfl⟩
theorem set4_far (w : World) (g : Nat) (u0 u1 u2 u3 : Value) {q : Addr} (h : q.block ≠ g) : ((((w.setCell ⟨g, 0, none⟩ u0).setCell ⟨g, 1, none⟩ u1).setCell ⟨g, 2, none⟩ u2).setCell ⟨g, 3, none⟩ u3).cell? q = w.cell? q := by
  have h1 : ∀ (w : World) (i : Nat) (u : Value), (w.setCell ⟨g, i, none⟩ u).cell? q = w.cell? q := fun w i u => World.cell?_setCell_other w ⟨g, i, none⟩ q u (fun e => h (by rw [← e]))
  rw [h1, h1, h1, h1]
theorem ret_says {a : List Dot} {l : List Sib} {d : Dot} {n : Int} {z : Sib} (h : says a l d = (n, z)) : Ending.returned (.tuple #[.int .i64 n, .agg #[.int .u32 z.d.a, .int .u64 z.d.n, .bool z.gone, .string z.v]]) = .returned (.tuple #[.int .i64 (says a l d).1, sibV (says a l d).2]) := by
  rw [h]; rfl
set_option maxRecDepth 100000 in
set_option maxHeartbeats 6400000 in
theorem says_any (A B : Option Addr) (c1 c2 : Nat) (a : List Dot) (l : List Sib) (d : Dot) (w : World) (ha : GR.Rd dotK w A a) (hl : GR.Rd sibK w B l) (na : ∀ d ∈ a, 0 ≤ d.n) :
    Calls Try.prog 71 #[.agg #[.slice A a.length c1, .slice B l.length c2], .agg #[.int .u32 d.a, .int .u64 d.n]] w
      fun e w' => e = .returned (.tuple #[.int .i64 (says a l d).1, sibV (says a l d).2]) ∧ Below w.heap.size w w' := by
  have hml : l.length * 40 ≤ 140737488355328 := hl.max
  have HA := Lib.hid ha
  have HL := Lib.hid hl
  have NA := Lib.hid na
  clear ha hl na
  go_enter Try.func71, Try.ntmps71
  go_wp2_with fail
  obtain ⟨W1, hW1⟩ : ∃ W1 : World, W1 = ((w.alloc (.cells #[.slice A a.length c1, .slice B l.length c2] 25)).alloc (.cells #[.int .u32 d.a, .int .u64 d.n] 41)).alloc (.cells #[.int .u32 0, .int .u64 0, .bool false, .string ⟨#[]⟩] 67) := ⟨_, rfl⟩
  rw [← hW1]
  have LW : Hid (Below w.heap.size w W1) := Lib.hid (by rw [hW1]; exact (by repeat (first | exact Below.refl _ _ | refine bl_drewN ?_ _ | refine bl_drew ?_ | refine bl_alloc ?_ _)))
  have XA : Hid (GR.Blk W1 w.heap.size 25 #[.slice A a.length c1, .slice B l.length c2]) := Lib.hid (by rw [hW1]; exact ((GR.Blk.new _ _ _).alloc _).alloc _)
  have XD : Hid (GR.Blk W1 (w.heap.size + 1) 41 #[.int .u32 d.a, .int .u64 d.n]) := Lib.hid (by rw [hW1]; exact (new_at _ _ _ (by simp)).alloc _)
  have XR : Hid (GR.Blk W1 (w.heap.size + 1 + 1) 67 #[.int .u32 0, .int .u64 0, .bool false, .string ⟨#[]⟩]) := Lib.hid (by rw [hW1]; exact new_at _ _ _ (by simp))
  clear hW1
  have s0 : W1.cell? ⟨w.heap.size, 0, none⟩ = some (.slice A a.length c1) := XA.out.cell 0
  have s1 : W1.cell? ⟨w.heap.size, 1, none⟩ = some (.slice B l.length c2) := XA.out.cell 1
  have d0 : W1.cell? ⟨w.heap.size + 1, 0, none⟩ = some (.int .u32 d.a) := XD.out.cell 0
  have d1 : W1.cell? ⟨w.heap.size + 1, 1, none⟩ = some (.int .u64 d.n) := XD.out.cell 1
  have r0 : W1.cell? ⟨w.heap.size + 1 + 1, 0, none⟩ = some (.int .u32 0) := XR.out.cell 0
  have r1 : W1.cell? ⟨w.heap.size + 1 + 1, 1, none⟩ = some (.int .u64 0) := XR.out.cell 1
  have r2 : W1.cell? ⟨w.heap.size + 1 + 1, 2, none⟩ = some (.bool false) := XR.out.cell 2
  have r3 : W1.cell? ⟨w.heap.size + 1 + 1, 3, none⟩ = some (.string ⟨#[]⟩) := XR.out.cell 3
  have q0 := XR.out.frozen 0
  have q1 := XR.out.frozen 1
  have q2 := XR.out.frozen 2
  have q3 := XR.out.frozen 3
  go_wp2
  go_loopw [6] (fun i w' => ∃ k n : Nat, k ≤ l.length ∧ i = .int .i64 k ∧ Hid (∀ x ∈ l.take k, x.d ≠ d) ∧ W1.drewN n = w') (fun i _ => l.length - (intOf i).toNat)
  case atStart => exact ⟨0, 0, Nat.zero_le _, rfl, Lib.hid (by simp), rfl⟩
  case round =>
    obtain ⟨k, nd, hk, rfl, hno, rfl⟩ := hrel
    by_cases hlt : k < l.length
    · have i0 : (0 : Int) ≤ (k : Int) := by omega
      have i1 : (k : Int) < (l.length : Int) := by omega
      obtain ⟨xd, e_, hbx, _, _, _, _⟩ := sib_at HL.out k hlt
      subst e_
      obtain ⟨xd2, e_, _, x0, x1, x2, x3⟩ := sib_at (HL.out.below LW.out) k hlt
      cases e_
      have KS : Hid (∀ n, (W1.drewN n).cell? ⟨w.heap.size, 1, none⟩ = some (.slice (some xd) l.length c2)) := Lib.hid (fun _ => s1)
      have K0 : Hid (∀ n, (W1.drewN n).cell? (xd.add (k * 4)) = some (.int .u32 l[k].d.a)) := Lib.hid (fun _ => x0)
      have K1 : Hid (∀ n, (W1.drewN n).cell? ⟨(xd.add (k * 4)).block, (xd.add (k * 4)).off + 1, none⟩ = some (.int .u64 l[k].d.n)) := Lib.hid (fun _ => x1)
      have K2 : Hid (∀ n, (W1.drewN n).cell? ⟨(xd.add (k * 4)).block, (xd.add (k * 4)).off + 2, none⟩ = some (.bool l[k].gone)) := Lib.hid (fun _ => x2)
      have K3 : Hid (∀ n, (W1.drewN n).cell? ⟨(xd.add (k * 4)).block, (xd.add (k * 4)).off + 3, none⟩ = some (.string l[k].v)) := Lib.hid (fun _ => x3)
      have HNX : Hid ((xd.add (k * 4)).block ≠ w.heap.size + 1 + 1) := Lib.hid (by omega)
      have HNS : Hid (w.heap.size ≠ w.heap.size + 1 + 1) := Lib.hid (by omega)
      clear hbx
      by_cases he : l[k].d = d
      · have t0 : dEq l[k].d.a l[k].d.n d.a d.n = true := dEq_iff.2 he
        have HV := Lib.hid (find_take hno.out hlt he a)
        clear he
        go_wp2
        go_quiet (fail)
        go_wp2
        refine wp_region_held_drew (S := fun w' => w'.cell? ⟨w.heap.size, 1, none⟩ = some (.slice (some xd) l.length c2) ∧ w'.cell? (xd.add (k * 4)) = some (.int .u32 l[k].d.a) ∧ w'.cell? ⟨(xd.add (k * 4)).block, (xd.add (k * 4)).off + 1, none⟩ = some (.int .u64 l[k].d.n) ∧ w'.cell? ⟨(xd.add (k * 4)).block, (xd.add (k * 4)).off + 2, none⟩ = some (.bool l[k].gone) ∧ w'.cell? ⟨(xd.add (k * 4)).block, (xd.add (k * 4)).off + 3, none⟩ = some (.string l[k].v)) (by kernel_rfl) ?_ (fun hHeld => ?_)
        · exact ⟨s1, x0, x1, x2, x3⟩
        refine wpAnyH_take (i := 0) (oi := { dst := some 22, op := Op.fieldAddr 25 (Operand.tmp 2) 1, type := 0, pos := "ref.go:68", after := #[{ on := 5, ground := Ground.gcOnly Departure.lateStores }], guard := none }) (v := ?_) rfl (by kernel_rfl) (by kernel_rfl) (by kernel_rfl) (fun _ _ _ h => h) (Or.inl ⟨by rfl, ?_⟩) (by assumption) ?_
        rotate_left
        · intro w_ hSw
          (try dsimp only at hSw)
          go_simp
          first | done | with_reducible rfl
        try simp only [Act.put, List.setIfInBounds_toArray, List.set_cons_zero, List.set_cons_succ]
        refine wpAnyH_take (i := 1) (oi := { dst := some 23, op := Op.load 23 (Operand.tmp 22), type := 23, pos := "ref.go:68", after := #[{ on := 0, ground := Ground.data }, { on := 5, ground := Ground.gcOnly Departure.lateStores }], guard := none }) (v := ?_) rfl (by kernel_rfl) (by kernel_rfl) (by kernel_rfl) (fun _ _ _ h => h) (Or.inl ⟨by rfl, ?_⟩) (by assumption) ?_
        rotate_left
        · intro w_ hSw
          (try dsimp only at hSw)
          go_simp
          first | done | with_reducible rfl
        try simp only [Act.put, List.setIfInBounds_toArray, List.set_cons_zero, List.set_cons_succ]
        refine wpAnyH_take (i := 2) (oi := { dst := some 24, op := Op.move (Operand.tmp 6), type := 3, pos := "ref.go:68", after := #[{ on := 5, ground := Ground.gcOnly Departure.lateStores }], guard := none }) (v := ?_) rfl (by kernel_rfl) (by kernel_rfl) (by kernel_rfl) (fun _ _ _ h => h) (Or.inl ⟨by rfl, ?_⟩) (by assumption) ?_
        rotate_left
        · intro w_ hSw
          (try dsimp only at hSw)
          go_simp
          first | done | with_reducible rfl
        try simp only [Act.put, List.setIfInBounds_toArray, List.set_cons_zero, List.set_cons_succ]
        refine wpAnyH_take (i := 3) (oi := { dst := some 25, op := Op.indexAddr 23 (Operand.tmp 23) (Operand.tmp 24), type := 0, pos := "ref.go:68", after := #[{ on := 1, ground := Ground.data }, { on := 2, ground := Ground.data }, { on := 5, ground := Ground.gcOnly Departure.lateStores }], guard := none }) (v := ?_) rfl (by kernel_rfl) (by kernel_rfl) (by kernel_rfl) (fun _ _ _ h => h) (Or.inl ⟨by rfl, ?_⟩) (by assumption) ?_
        rotate_left
        · intro w_ hSw
          (try dsimp only at hSw)
          go_simp
          first | done | with_reducible rfl
        try simp only [Act.put, List.setIfInBounds_toArray, List.set_cons_zero, List.set_cons_succ]
        refine wpAnyH_take (i := 4) (oi := { dst := some 26, op := Op.load 67 (Operand.tmp 25), type := 67, pos := "ref.go:68", after := #[{ on := 3, ground := Ground.data }, { on := 5, ground := Ground.gcOnly Departure.lateStores }], guard := none }) (v := ?_) rfl (by kernel_rfl) (by kernel_rfl) (by kernel_rfl) (fun _ _ _ h => h) (Or.inl ⟨by rfl, ?_⟩) (by assumption) ?_
        rotate_left
        · intro w_ hSw
          (try dsimp only at hSw)
          go_simp
          first | done | with_reducible rfl
        try simp only [Act.put, List.setIfInBounds_toArray, List.set_cons_zero, List.set_cons_succ]
        refine wpAnyH_take (i := 5) (oi := { dst := some 4, op := Op.assign (Operand.const (Value.int IntKind.i64 1)), type := 3, pos := "ref.go:68", after := #[{ on := 0, ground := Ground.textOnly Departure.lateStores }, { on := 1, ground := Ground.textOnly Departure.lateStores }, { on := 2, ground := Ground.textOnly Departure.lateStores }, { on := 3, ground := Ground.textOnly Departure.lateStores }, { on := 4, ground := Ground.textOnly Departure.lateStores }], guard := none }) (v := ?_) rfl (by kernel_rfl) (by kernel_rfl) (by kernel_rfl) (fun _ _ _ h => h) (Or.inl ⟨by rfl, ?_⟩) (by assumption) ?_
        rotate_left
        · intro w_ hSw
          (try dsimp only at hSw)
          go_simp
          first | done | with_reducible rfl
        try simp only [Act.put, List.setIfInBounds_toArray, List.set_cons_zero, List.set_cons_succ]
        refine wpAnyH_ready (rs := [6]) (by kernel_rfl) (by simp) ?_
        refine AllReadyH.cons (o := { dst := none, op := Op.store 67 (Operand.tmp 5) (Operand.tmp 26), type := 0, pos := "ref.go:68", after := #[{ on := 4, ground := Ground.data }, { on := 5, ground := Ground.chain }, { on := 0, ground := Ground.phase }, { on := 1, ground := Ground.phase }, { on := 2, ground := Ground.phase }, { on := 3, ground := Ground.phase }, { on := 4, ground := Ground.phase }, { on := 5, ground := Ground.phase }], guard := none }) rfl (fun K hK => ?_) (AllReadyH.nil)
        go_simp
        skip
        refine hK.out _ _ ?_ (fun hHeld => ?_)
        · exact ⟨(set4_far _ _ _ _ _ _ (q := ⟨w.heap.size, 1, none⟩) HNS.out).trans (KS.out _), (set4_far _ _ _ _ _ _ (q := (xd.add (k * 4))) HNX.out).trans (K0.out _), (set4_far _ _ _ _ _ _ (q := ⟨(xd.add (k * 4)).block, (xd.add (k * 4)).off + 1, none⟩) HNX.out).trans (K1.out _), (set4_far _ _ _ _ _ _ (q := ⟨(xd.add (k * 4)).block, (xd.add (k * 4)).off + 2, none⟩) HNX.out).trans (K2.out _), (set4_far _ _ _ _ _ _ (q := ⟨(xd.add (k * 4)).block, (xd.add (k * 4)).off + 3, none⟩) HNX.out).trans (K3.out _)⟩
        clear hK K
        try simp only [Act.put, List.setIfInBounds_toArray, List.set_cons_zero, List.set_cons_succ]
        refine wpAnyH_done (by kernel_rfl) ?_ _
        go_wp2
        exact bodyPost_ret (v := .tuple #[.int .i64 1, .agg #[.int .u32 l[k].d.a, .int .u64 l[k].d.n, .bool l[k].gone, .string l[k].v]]) (by simp [results, Try.results71, go_sem, r0, r1, r2, r3]) rfl ⟨ret_says HV.out, by repeat (first | exact LW.out | refine bl_drewN ?_ _ | refine bl_drew ?_ | refine bl_alloc ?_ _ | refine Below.setCell ?_ (by simp; omega) _)⟩
      · have t0 : dEq l[k].d.a l[k].d.n d.a d.n = false := by rw [Bool.eq_false_iff]; intro h; exact he (dEq_iff.1 h)
        have HV := Lib.hid (show ∀ x ∈ l.take (k + 1), x.d ≠ d by
          rw [List.take_succ_eq_append_getElem hlt]
          intro x hx
          rcases List.mem_append.1 hx with hx | hx
          · exact hno.out x hx
          · simp only [List.mem_singleton] at hx; subst hx; exact he)
        clear he
        go_wp2
        go_quiet (fail)
        go_wp2
        go_roundw
        case rel => exact ⟨k + 1, _, by omega, by go_num, HV, by first | rfl | trivial⟩
        case measure => simp [intOf]; omega
    · obtain rfl : k = l.length := by omega
      have HN := Lib.hid (find_none hno.out a)
      by_cases hc : cov a d = true
      · have HV := Lib.hid (HN.out.1 hc)
        go_wp2_with fail
        refine (refCovers_is A c1 a d true hc _ ((HA.out.below LW.out).drewN _) NA.out).mono ?_
        rintro e w5 ⟨rfl, hb5⟩
        have L5 := Lib.hid (bl_then (w := W1) (by repeat (first | exact Below.refl _ _ | refine bl_drewN ?_ _ | refine bl_drew ?_ | refine bl_alloc ?_ _)) hb5)
        clear hb5 r0 r1 r2 r3 q0 q1 q2 q3
        have r0 : w5.cell? ⟨w.heap.size + 1 + 1, 0, none⟩ = some (.int .u32 0) := (XR.out.below L5.out XR.out.lt).cell 0
        have r1 : w5.cell? ⟨w.heap.size + 1 + 1, 1, none⟩ = some (.int .u64 0) := (XR.out.below L5.out XR.out.lt).cell 1
        have r2 : w5.cell? ⟨w.heap.size + 1 + 1, 2, none⟩ = some (.bool false) := (XR.out.below L5.out XR.out.lt).cell 2
        have r3 : w5.cell? ⟨w.heap.size + 1 + 1, 3, none⟩ = some (.string ⟨#[]⟩) := (XR.out.below L5.out XR.out.lt).cell 3
        have q0 := (XR.out.below L5.out XR.out.lt).frozen 0
        have q1 := (XR.out.below L5.out XR.out.lt).frozen 1
        have q2 := (XR.out.below L5.out XR.out.lt).frozen 2
        have q3 := (XR.out.below L5.out XR.out.lt).frozen 3
        go_wp2
        exact bodyPost_ret (v := .tuple #[.int .i64 2, .agg #[.int .u32 0, .int .u64 0, .bool false, .string ⟨#[]⟩]]) (by simp [results, Try.results71, go_sem, r0, r1, r2, r3]) rfl ⟨ret_says HV.out, by repeat (first | exact bl_then LW.out L5.out | refine bl_drewN ?_ _ | refine bl_drew ?_ | refine bl_alloc ?_ _ | refine Below.setCell ?_ (by simp; omega) _)⟩
      · have hc' : cov a d = false := by simpa using hc
        have HV := Lib.hid (HN.out.2 hc')
        go_wp2_with fail
        refine (refCovers_is A c1 a d false hc' _ ((HA.out.below LW.out).drewN _) NA.out).mono ?_
        rintro e w5 ⟨rfl, hb5⟩
        have L5 := Lib.hid (bl_then (w := W1) (by repeat (first | exact Below.refl _ _ | refine bl_drewN ?_ _ | refine bl_drew ?_ | refine bl_alloc ?_ _)) hb5)
        clear hb5 r0 r1 r2 r3 q0 q1 q2 q3
        have r0 : w5.cell? ⟨w.heap.size + 1 + 1, 0, none⟩ = some (.int .u32 0) := (XR.out.below L5.out XR.out.lt).cell 0
        have r1 : w5.cell? ⟨w.heap.size + 1 + 1, 1, none⟩ = some (.int .u64 0) := (XR.out.below L5.out XR.out.lt).cell 1
        have r2 : w5.cell? ⟨w.heap.size + 1 + 1, 2, none⟩ = some (.bool false) := (XR.out.below L5.out XR.out.lt).cell 2
        have r3 : w5.cell? ⟨w.heap.size + 1 + 1, 3, none⟩ = some (.string ⟨#[]⟩) := (XR.out.below L5.out XR.out.lt).cell 3
        have q0 := (XR.out.below L5.out XR.out.lt).frozen 0
        have q1 := (XR.out.below L5.out XR.out.lt).frozen 1
        have q2 := (XR.out.below L5.out XR.out.lt).frozen 2
        have q3 := (XR.out.below L5.out XR.out.lt).frozen 3
        go_wp2
        exact bodyPost_ret (v := .tuple #[.int .i64 0, .agg #[.int .u32 0, .int .u64 0, .bool false, .string ⟨#[]⟩]]) (by simp [results, Try.results71, go_sem, r0, r1, r2, r3]) rfl ⟨ret_says HV.out, by repeat (first | exact bl_then LW.out L5.out | refine bl_drewN ?_ _ | refine bl_drew ?_ | refine bl_alloc ?_ _ | refine Below.setCell ?_ (by simp; omega) _)⟩
end Go.Proofs.Ytljfigikkajlnaa
