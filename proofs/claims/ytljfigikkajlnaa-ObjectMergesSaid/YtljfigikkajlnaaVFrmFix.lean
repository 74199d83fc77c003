/- DERIVED. The program's Writer: a number in two bytes. -/
import Derived.Test.YtljfigikkajlnaaVm6
import Derived.Test.YtljfigikkajlnaaVm11
import Derived.Deep.RegionHeld3
namespace Go.Proofs.Ytljfigikkajlnaa
open Go.RowKit Go.Lib
set_option linter.unusedVariables false
set_option linter.unusedSimpArgs false
def fix2 (v : Nat) : List UInt8 := [UInt8.ofNat (v / 256), UInt8.ofNat v]
section
variable {ops : Array Oper} {o : Oper} {a : Act} {K : Act → World → Prop} {Q : Exit → Act → World → Prop} {E : Prop}
theorem step_app1 {w : World} (hgd : o.guard = none) (s x : Operand) (ho : o.op = .call { callee := .builtin .append, args := #[s, x], argTypes := #[130, 130] })
 (B : Nat) (v : Value) (l : List UInt8) (hs : a.eval s = v) (hown : OwnN w B v l) (ad : Addr) (c : Nat) (x8 : UInt8) (hx : a.eval x = .slice (some ad) 1 c) (hc : w.cell? ad = some (.int .u8 (bv x8))) (hb : l.length + 1 ≤ 140737488355328) (hbase : B ≤ w.heap.size)
 (h : ∀ v' w', OwnN w' B v' (l ++ [x8]) → w.grownBy w' v.ownBlock → K (a.put o.dst v') w') :
 if Region.wanted o (yielded ops a.tmps) = true then Oper.wp Try.prog o a w K Q else E := by
 have hw : Region.wanted o (yielded ops a.tmps) = true := by simp [Region.wanted, hgd]
 rw [if_pos hw]
 obtain ⟨v', w', hr, h2, h3⟩ := run_app1 o.type hown ad c x8 hc hb hbase
 unfold Oper.wp execOp
 simp only [ho, resolve, invoke, builtin, Sem.run_bind, Sem.run_pure, Result.andThen_ok, List.map_toArray, List.map_cons, List.map_nil, hs, hx, hr]
 exact h v' w' h2 h3
end
set_option maxRecDepth 100000 in
set_option maxHeartbeats 3200000 in
theorem fixed2_any (B g : Nat) (l : List UInt8) (v : Nat) (hv : v < 65536) (w : World) (hw : Wr w B g l) (hl : l.length + 2 ≤ 140737488355328) :
 Calls Try.prog 57 #[.pointer (some ⟨g, 0, none⟩), .int .u64 v, .int .i64 2] w fun e w' => e = .returned (.int .i64 0) ∧ Wr w' B g (l ++ fix2 v) ∧ Below B w w' := by
 have q8 : IntKind.i64.wrap 8 = 8 := by decide
 have q0 : IntKind.i64.wrap 0 = 0 := by decide
 have HW := Lib.hid hw
 have hB : B ≤ g := hw.1
 have hBw : B ≤ w.heap.size := by obtain ⟨h1, _, h2, _⟩ := hw; have := h2.lt; omega
 have s0 : ((v : Int) / 65536) = 0 := by omega
 have s1 : v / 65536 = 0 := by omega
 clear hw
 go_enter Try.func57, Try.ntmps57
 go_wp2
 go_loopw [2] (fun x0 w' => ∃ (m : Nat), m ≤ 2 ∧ x0 = .int .i64 ((m : Int) - 1) ∧ Hid (Wr w' B g (l ++ (fix2 v).take (2 - m))) ∧ Hid (Below B w w')) (fun x0 _ => (intOf x0 + 1).toNat)
 case atStart => exact ⟨2, Nat.le_refl _, rfl, Lib.hid (by simpa using HW.out), Lib.hid (Below.refl _ _)⟩
 case round =>
  obtain ⟨m, hm, rfl, hW, hb⟩ := hrel
  have hsz := hb.out.size
  obtain ⟨_, vv, bg, ho⟩ := hW.out
  have c0 : wr.cell? ⟨g, 0, none⟩ = some vv := bg.cell 0
  have f0 := bg.frozen 0
  have lg := bg.lt
  have ng : g ≠ wr.heap.size := Nat.ne_of_lt lg
  have BG := Lib.hid bg
  have HO := Lib.hid ho
  have hBr : B ≤ wr.heap.size := Nat.le_trans hB (Nat.le_of_lt lg)
  have HW0 := hW
  clear bg ho hW
  match m, hm with
  | 0, _ =>
   go_wp2
   go_ret
   exact ⟨rfl, by have h9 := HW0.out; simpa [fix2] using h9, hb.out⟩
  | 1, _ =>
   have HV := Lib.hid (show IntKind.u8.wrap (v : Int) = bv (UInt8.ofNat v) by unfold bv; rw [UInt8.toNat_ofNat', IntKind.wrap_u8]; omega)
   go_wp2
   refine wp_region_held_drew (S := fun _ => True) (by kernel_rfl) ?_ (fun hHeld => ?_)
   · trivial
   refine wpAnyH_take (i := 0) (oi := { dst := some 32, op := Op.move (Operand.tmp 0), type := 86, pos := "wire.go:45", after := #[], guard := none }) (v := ?_) rfl (by kernel_rfl) (by kernel_rfl) (by kernel_rfl) (fun _ _ _ h => h) (Or.inl ⟨by rfl, ?_⟩) (by assumption) ?_
   rotate_left
   · intro w_ hSw
     (try dsimp only at hSw)
     go_simp
     first | done | with_reducible rfl
   try simp only [Act.put, List.setIfInBounds_toArray, List.set_cons_zero, List.set_cons_succ]
   refine wpAnyH_take (i := 1) (oi := { dst := some 33, op := Op.move (Operand.tmp 0), type := 86, pos := "wire.go:45", after := #[], guard := none }) (v := ?_) rfl (by kernel_rfl) (by kernel_rfl) (by kernel_rfl) (fun _ _ _ h => h) (Or.inl ⟨by rfl, ?_⟩) (by assumption) ?_
   rotate_left
   · intro w_ hSw
     (try dsimp only at hSw)
     go_simp
     first | done | with_reducible rfl
   try simp only [Act.put, List.setIfInBounds_toArray, List.set_cons_zero, List.set_cons_succ]
   refine wpAnyH_take (i := 2) (oi := { dst := some 34, op := Op.nilCheck (Operand.tmp 33), type := 0, pos := "wire.go:45", after := #[{ on := 1, ground := Ground.data }], guard := none }) (v := ?_) rfl (by kernel_rfl) (by kernel_rfl) (by kernel_rfl) (fun _ _ _ h => h) (Or.inl ⟨by rfl, ?_⟩) (by assumption) ?_
   rotate_left
   · intro w_ hSw
     (try dsimp only at hSw)
     go_simp
     first | done | with_reducible rfl
   try simp only [Act.put, List.setIfInBounds_toArray, List.set_cons_zero, List.set_cons_succ]
   refine wpAnyH_take (i := 3) (oi := { dst := some 35, op := Op.fieldAddr 132 (Operand.tmp 34) 0, type := 0, pos := "wire.go:45", after := #[{ on := 2, ground := Ground.data }], guard := none }) (v := ?_) rfl (by kernel_rfl) (by kernel_rfl) (by kernel_rfl) (fun _ _ _ h => h) (Or.inl ⟨by rfl, ?_⟩) (by assumption) ?_
   rotate_left
   · intro w_ hSw
     (try dsimp only at hSw)
     go_simp
     first | done | with_reducible rfl
   try simp only [Act.put, List.setIfInBounds_toArray, List.set_cons_zero, List.set_cons_succ]
   refine wpAnyH_take (i := 5) (oi := { dst := some 37, op := Op.move (Operand.tmp 1), type := 39, pos := "wire.go:45", after := #[], guard := none }) (v := ?_) rfl (by kernel_rfl) (by kernel_rfl) (by kernel_rfl) (fun _ _ _ h => h) (Or.inl ⟨by rfl, ?_⟩) (by assumption) ?_
   rotate_left
   · intro w_ hSw
     (try dsimp only at hSw)
     go_simp
     first | done | with_reducible rfl
   try simp only [Act.put, List.setIfInBounds_toArray, List.set_cons_zero, List.set_cons_succ]
   refine wpAnyH_take (i := 6) (oi := { dst := some 38, op := Op.move (Operand.tmp 2), type := 3, pos := "wire.go:45", after := #[], guard := none }) (v := ?_) rfl (by kernel_rfl) (by kernel_rfl) (by kernel_rfl) (fun _ _ _ h => h) (Or.inl ⟨by rfl, ?_⟩) (by assumption) ?_
   rotate_left
   · intro w_ hSw
     (try dsimp only at hSw)
     go_simp
     first | done | with_reducible rfl
   try simp only [Act.put, List.setIfInBounds_toArray, List.set_cons_zero, List.set_cons_succ]
   refine wpAnyH_take (i := 7) (oi := { dst := some 39, op := Op.binOp BinOp.mul 3 (Operand.const (Value.int IntKind.i64 8)) (Operand.tmp 38) 3, type := 3, pos := "wire.go:45", after := #[{ on := 6, ground := Ground.data }], guard := none }) (v := ?_) rfl (by kernel_rfl) (by kernel_rfl) (by kernel_rfl) (fun _ _ _ h => h) (Or.inl ⟨by rfl, ?_⟩) (by assumption) ?_
   rotate_left
   · intro w_ hSw
     (try dsimp only at hSw)
     go_simp
     first | done | with_reducible rfl
   try simp only [Act.put, List.setIfInBounds_toArray, List.set_cons_zero, List.set_cons_succ]
   refine wpAnyH_take (i := 8) (oi := { dst := some 40, op := Op.binOp BinOp.shr 39 (Operand.tmp 37) (Operand.tmp 39) 3, type := 39, pos := "wire.go:45", after := #[{ on := 5, ground := Ground.data }, { on := 7, ground := Ground.data }], guard := none }) (v := ?_) rfl (by kernel_rfl) (by kernel_rfl) (by kernel_rfl) (fun _ _ _ h => h) (Or.inl ⟨by rfl, ?_⟩) (by assumption) ?_
   rotate_left
   · intro w_ hSw
     (try dsimp only at hSw)
     go_simp
     first | done | with_reducible rfl
   try simp only [Act.put, List.setIfInBounds_toArray, List.set_cons_zero, List.set_cons_succ]
   refine wpAnyH_take (i := 9) (oi := { dst := some 41, op := Op.convert 39 5 (Operand.tmp 40), type := 5, pos := "wire.go:45", after := #[{ on := 8, ground := Ground.data }], guard := none }) (v := ?_) rfl (by kernel_rfl) (by kernel_rfl) (by kernel_rfl) (fun _ _ _ h => h) (Or.inl ⟨by rfl, ?_⟩) (by assumption) ?_
   rotate_left
   · intro w_ hSw
     (try dsimp only at hSw)
     go_simp
     first | done | with_reducible rfl
   try simp only [Act.put, List.setIfInBounds_toArray, List.set_cons_zero, List.set_cons_succ]
   refine wpAnyH_ready (rs := [4, 10]) (by kernel_rfl) (by simp) ?_
   refine AllReadyH.cons (o := { dst := some 36, op := Op.load 130 (Operand.tmp 35), type := 130, pos := "wire.go:45", after := #[{ on := 3, ground := Ground.data }], guard := none }) rfl (fun K hK => ?_) (AllReadyH.cons (o := { dst := some 42, op := Op.buildSlice 130 1 #[(0, Operand.tmp 41)], type := 130, pos := "wire.go:45", after := #[{ on := 9, ground := Ground.data }], guard := none }) rfl (fun K hK => ?_) (AllReadyH.nil))
   · skip
     go_simp
     skip
     refine hK.out _ _ ?_ (fun hHeld => ?_)
     · trivial
     clear hK K
     try simp only [Act.put, List.setIfInBounds_toArray, List.set_cons_zero, List.set_cons_succ]
     refine wpAnyH_ready (rs := [10]) (by kernel_rfl) (by simp) ?_
     refine AllReadyH.cons (o := { dst := some 42, op := Op.buildSlice 130 1 #[(0, Operand.tmp 41)], type := 130, pos := "wire.go:45", after := #[{ on := 9, ground := Ground.data }], guard := none }) rfl (fun K hK => ?_) AllReadyH.nil
     go_simp
     skip
     refine hK.out _ _ ?_ (fun hHeld => ?_)
     · trivial
     clear hK K
     try simp only [Act.put, List.setIfInBounds_toArray, List.set_cons_zero, List.set_cons_succ]
     refine wpAnyH_ready (rs := [11]) (by kernel_rfl) (by simp) ?_
     refine AllReadyH.cons (o := { dst := some 43, op := Op.call { callee := Callee.builtin Builtin.append, args := #[Operand.tmp 36, Operand.tmp 42], argTypes := #[130, 130] }, type := 130, pos := "wire.go:45", after := #[{ on := 4, ground := Ground.data }, { on := 10, ground := Ground.data }], guard := none }) rfl (fun K hK => ?_) AllReadyH.nil
     refine step_app1 rfl (.tmp 36) (.tmp 42) rfl B vv (l ++ (fix2 v).take 1) rfl (by repeat (first | exact HO.out | refine OwnN.drewN ?_ _ | refine OwnN.drew ?_ | refine OwnN.alloc ?_ _)) ⟨wr.heap.size, 0, none⟩ 1 (UInt8.ofNat v) rfl (((GR.Blk.new _ _ _).cell 0).trans (congrArg (fun z => some (Value.int .u8 z)) HV.out)) (by simp [fix2]; omega) (by simp; omega) ?_
     intro v3 w3 ho_ hg_
     obtain ⟨A3, n3, c3, rfl⟩ := ho_.slice'
     have G3 : Hid (wr.grownBy w3 vv.ownBlock) := Lib.hid (GR.grown_step (GR.grown_of_bl (by repeat (first | exact Below.refl _ _ | refine bl_drewN ?_ _ | refine bl_drew ?_ | refine bl_alloc ?_ _)) vv.ownBlock) hg_ (.inl rfl))
     have B3 : Hid (GR.Blk w3 g 132 #[vv]) := Lib.hid (BG.out.grown G3.out (Ne.symm (HO.out.ne_blk BG.out (by decide))))
     have HO3 := Lib.hid ho_
     have HB3 := Lib.hid (hb.out.grown G3.out hBr (fun b hb => (HO.out.lt b hb).1))
     clear ho_ hg_ G3
     have d0 : w3.cell? ⟨g, 0, none⟩ = some vv := B3.out.cell 0
     have d1 := B3.out.frozen 0
     refine hK.out _ _ ?_ (fun hHeld => ?_)
     · trivial
     clear hK K
     try simp only [Act.put, List.setIfInBounds_toArray, List.set_cons_zero, List.set_cons_succ]
     refine wpAnyH_take (i := 12) (oi := { dst := some 44, op := Op.nilCheck (Operand.tmp 32), type := 0, pos := "wire.go:45", after := #[{ on := 0, ground := Ground.data }, { on := 0, ground := Ground.phase }, { on := 1, ground := Ground.phase }, { on := 2, ground := Ground.phase }, { on := 3, ground := Ground.phase }, { on := 4, ground := Ground.phase }, { on := 5, ground := Ground.phase }, { on := 6, ground := Ground.phase }, { on := 7, ground := Ground.phase }, { on := 8, ground := Ground.phase }, { on := 9, ground := Ground.phase }, { on := 10, ground := Ground.phase }, { on := 11, ground := Ground.phase }], guard := none }) (v := ?_) rfl (by kernel_rfl) (by kernel_rfl) (by kernel_rfl) (fun _ _ _ h => h) (Or.inl ⟨by rfl, ?_⟩) (by assumption) ?_
     rotate_left
     · intro w_ hSw
       (try dsimp only at hSw)
       go_simp
       first | done | with_reducible rfl
     try simp only [Act.put, List.setIfInBounds_toArray, List.set_cons_zero, List.set_cons_succ]
     refine wpAnyH_take (i := 13) (oi := { dst := some 45, op := Op.fieldAddr 132 (Operand.tmp 44) 0, type := 0, pos := "wire.go:45", after := #[{ on := 12, ground := Ground.data }, { on := 0, ground := Ground.phase }, { on := 1, ground := Ground.phase }, { on := 2, ground := Ground.phase }, { on := 3, ground := Ground.phase }, { on := 4, ground := Ground.phase }, { on := 5, ground := Ground.phase }, { on := 6, ground := Ground.phase }, { on := 7, ground := Ground.phase }, { on := 8, ground := Ground.phase }, { on := 9, ground := Ground.phase }, { on := 10, ground := Ground.phase }, { on := 11, ground := Ground.phase }], guard := none }) (v := ?_) rfl (by kernel_rfl) (by kernel_rfl) (by kernel_rfl) (fun _ _ _ h => h) (Or.inl ⟨by rfl, ?_⟩) (by assumption) ?_
     rotate_left
     · intro w_ hSw
       (try dsimp only at hSw)
       go_simp
       first | done | with_reducible rfl
     try simp only [Act.put, List.setIfInBounds_toArray, List.set_cons_zero, List.set_cons_succ]
     refine wpAnyH_ready (rs := [14]) (by kernel_rfl) (by simp) ?_
     refine AllReadyH.cons (o := { dst := none, op := Op.store 130 (Operand.tmp 45) (Operand.tmp 43), type := 0, pos := "wire.go:45", after := #[{ on := 13, ground := Ground.data }, { on := 11, ground := Ground.data }, { on := 11, ground := Ground.chain }, { on := 0, ground := Ground.phase }, { on := 1, ground := Ground.phase }, { on := 2, ground := Ground.phase }, { on := 3, ground := Ground.phase }, { on := 4, ground := Ground.phase }, { on := 5, ground := Ground.phase }, { on := 6, ground := Ground.phase }, { on := 7, ground := Ground.phase }, { on := 8, ground := Ground.phase }, { on := 9, ground := Ground.phase }, { on := 10, ground := Ground.phase }, { on := 11, ground := Ground.phase }], guard := none }) rfl (fun K hK => ?_) AllReadyH.nil
     go_simp
     skip
     refine hK.out _ _ ?_ (fun hHeld => ?_)
     · trivial
     clear hK K
     try simp only [Act.put, List.setIfInBounds_toArray, List.set_cons_zero, List.set_cons_succ]
     refine wpAnyH_done (by kernel_rfl) ?_ _
     go_wp2
     go_roundw
     case rel => exact ⟨0, by omega, by go_num, Lib.hid (by first | exact ⟨hB, _, B3.out.set_ 0 _, by have h9 := HO3.out.set_ (HO3.out.ne_blk (t := 132) B3.out (by decide)) (p := ⟨g, 0, none⟩) (.slice A3 n3 c3); simpa [fix2] using h9⟩ | exact ⟨hB, _, (B3.out.set_ 0 _).drewN _, by have h9 := (HO3.out.set_ (HO3.out.ne_blk (t := 132) B3.out (by decide)) (p := ⟨g, 0, none⟩) (.slice A3 n3 c3)).drewN _; simpa [fix2] using h9⟩), Lib.hid (by first | exact HB3.out.setCell hB _ | exact (HB3.out.setCell hB _).drewN _)⟩
     case measure => simp [intOf]
   · skip
     go_simp
     skip
     refine hK.out _ _ ?_ (fun hHeld => ?_)
     · trivial
     clear hK K
     try simp only [Act.put, List.setIfInBounds_toArray, List.set_cons_zero, List.set_cons_succ]
     refine wpAnyH_ready (rs := [4]) (by kernel_rfl) (by simp) ?_
     refine AllReadyH.cons (o := { dst := some 36, op := Op.load 130 (Operand.tmp 35), type := 130, pos := "wire.go:45", after := #[{ on := 3, ground := Ground.data }], guard := none }) rfl (fun K hK => ?_) AllReadyH.nil
     go_simp
     skip
     refine hK.out _ _ ?_ (fun hHeld => ?_)
     · trivial
     clear hK K
     try simp only [Act.put, List.setIfInBounds_toArray, List.set_cons_zero, List.set_cons_succ]
     refine wpAnyH_ready (rs := [11]) (by kernel_rfl) (by simp) ?_
     refine AllReadyH.cons (o := { dst := some 43, op := Op.call { callee := Callee.builtin Builtin.append, args := #[Operand.tmp 36, Operand.tmp 42], argTypes := #[130, 130] }, type := 130, pos := "wire.go:45", after := #[{ on := 4, ground := Ground.data }, { on := 10, ground := Ground.data }], guard := none }) rfl (fun K hK => ?_) AllReadyH.nil
     refine step_app1 rfl (.tmp 36) (.tmp 42) rfl B vv (l ++ (fix2 v).take 1) rfl (by repeat (first | exact HO.out | refine OwnN.drewN ?_ _ | refine OwnN.drew ?_ | refine OwnN.alloc ?_ _)) ⟨wr.heap.size, 0, none⟩ 1 (UInt8.ofNat v) rfl (((GR.Blk.new _ _ _).cell 0).trans (congrArg (fun z => some (Value.int .u8 z)) HV.out)) (by simp [fix2]; omega) (by simp; omega) ?_
     intro v3 w3 ho_ hg_
     obtain ⟨A3, n3, c3, rfl⟩ := ho_.slice'
     have G3 : Hid (wr.grownBy w3 vv.ownBlock) := Lib.hid (GR.grown_step (GR.grown_of_bl (by repeat (first | exact Below.refl _ _ | refine bl_drewN ?_ _ | refine bl_drew ?_ | refine bl_alloc ?_ _)) vv.ownBlock) hg_ (.inl rfl))
     have B3 : Hid (GR.Blk w3 g 132 #[vv]) := Lib.hid (BG.out.grown G3.out (Ne.symm (HO.out.ne_blk BG.out (by decide))))
     have HO3 := Lib.hid ho_
     have HB3 := Lib.hid (hb.out.grown G3.out hBr (fun b hb => (HO.out.lt b hb).1))
     clear ho_ hg_ G3
     have d0 : w3.cell? ⟨g, 0, none⟩ = some vv := B3.out.cell 0
     have d1 := B3.out.frozen 0
     refine hK.out _ _ ?_ (fun hHeld => ?_)
     · trivial
     clear hK K
     try simp only [Act.put, List.setIfInBounds_toArray, List.set_cons_zero, List.set_cons_succ]
     refine wpAnyH_take (i := 12) (oi := { dst := some 44, op := Op.nilCheck (Operand.tmp 32), type := 0, pos := "wire.go:45", after := #[{ on := 0, ground := Ground.data }, { on := 0, ground := Ground.phase }, { on := 1, ground := Ground.phase }, { on := 2, ground := Ground.phase }, { on := 3, ground := Ground.phase }, { on := 4, ground := Ground.phase }, { on := 5, ground := Ground.phase }, { on := 6, ground := Ground.phase }, { on := 7, ground := Ground.phase }, { on := 8, ground := Ground.phase }, { on := 9, ground := Ground.phase }, { on := 10, ground := Ground.phase }, { on := 11, ground := Ground.phase }], guard := none }) (v := ?_) rfl (by kernel_rfl) (by kernel_rfl) (by kernel_rfl) (fun _ _ _ h => h) (Or.inl ⟨by rfl, ?_⟩) (by assumption) ?_
     rotate_left
     · intro w_ hSw
       (try dsimp only at hSw)
       go_simp
       first | done | with_reducible rfl
     try simp only [Act.put, List.setIfInBounds_toArray, List.set_cons_zero, List.set_cons_succ]
     refine wpAnyH_take (i := 13) (oi := { dst := some 45, op := Op.fieldAddr 132 (Operand.tmp 44) 0, type := 0, pos := "wire.go:45", after := #[{ on := 12, ground := Ground.data }, { on := 0, ground := Ground.phase }, { on := 1, ground := Ground.phase }, { on := 2, ground := Ground.phase }, { on := 3, ground := Ground.phase }, { on := 4, ground := Ground.phase }, { on := 5, ground := Ground.phase }, { on := 6, ground := Ground.phase }, { on := 7, ground := Ground.phase }, { on := 8, ground := Ground.phase }, { on := 9, ground := Ground.phase }, { on := 10, ground := Ground.phase }, { on := 11, ground := Ground.phase }], guard := none }) (v := ?_) rfl (by kernel_rfl) (by kernel_rfl) (by kernel_rfl) (fun _ _ _ h => h) (Or.inl ⟨by rfl, ?_⟩) (by assumption) ?_
     rotate_left
     · intro w_ hSw
       (try dsimp only at hSw)
       go_simp
       first | done | with_reducible rfl
     try simp only [Act.put, List.setIfInBounds_toArray, List.set_cons_zero, List.set_cons_succ]
     refine wpAnyH_ready (rs := [14]) (by kernel_rfl) (by simp) ?_
     refine AllReadyH.cons (o := { dst := none, op := Op.store 130 (Operand.tmp 45) (Operand.tmp 43), type := 0, pos := "wire.go:45", after := #[{ on := 13, ground := Ground.data }, { on := 11, ground := Ground.data }, { on := 11, ground := Ground.chain }, { on := 0, ground := Ground.phase }, { on := 1, ground := Ground.phase }, { on := 2, ground := Ground.phase }, { on := 3, ground := Ground.phase }, { on := 4, ground := Ground.phase }, { on := 5, ground := Ground.phase }, { on := 6, ground := Ground.phase }, { on := 7, ground := Ground.phase }, { on := 8, ground := Ground.phase }, { on := 9, ground := Ground.phase }, { on := 10, ground := Ground.phase }, { on := 11, ground := Ground.phase }], guard := none }) rfl (fun K hK => ?_) AllReadyH.nil
     go_simp
     skip
     refine hK.out _ _ ?_ (fun hHeld => ?_)
     · trivial
     clear hK K
     try simp only [Act.put, List.setIfInBounds_toArray, List.set_cons_zero, List.set_cons_succ]
     refine wpAnyH_done (by kernel_rfl) ?_ _
     go_wp2
     go_roundw
     case rel => exact ⟨0, by omega, by go_num, Lib.hid (by first | exact ⟨hB, _, B3.out.set_ 0 _, by have h9 := HO3.out.set_ (HO3.out.ne_blk (t := 132) B3.out (by decide)) (p := ⟨g, 0, none⟩) (.slice A3 n3 c3); simpa [fix2] using h9⟩ | exact ⟨hB, _, (B3.out.set_ 0 _).drewN _, by have h9 := (HO3.out.set_ (HO3.out.ne_blk (t := 132) B3.out (by decide)) (p := ⟨g, 0, none⟩) (.slice A3 n3 c3)).drewN _; simpa [fix2] using h9⟩), Lib.hid (by first | exact HB3.out.setCell hB _ | exact (HB3.out.setCell hB _).drewN _)⟩
     case measure => simp [intOf]
  | 2, _ =>
   have HV := Lib.hid (show IntKind.u8.wrap ((v : Int) / 256) = bv (UInt8.ofNat (v / 256)) by unfold bv; rw [UInt8.toNat_ofNat', IntKind.wrap_u8]; omega)
   go_wp2
   refine wp_region_held_drew (S := fun _ => True) (by kernel_rfl) ?_ (fun hHeld => ?_)
   · trivial
   refine wpAnyH_take (i := 0) (oi := { dst := some 32, op := Op.move (Operand.tmp 0), type := 86, pos := "wire.go:45", after := #[], guard := none }) (v := ?_) rfl (by kernel_rfl) (by kernel_rfl) (by kernel_rfl) (fun _ _ _ h => h) (Or.inl ⟨by rfl, ?_⟩) (by assumption) ?_
   rotate_left
   · intro w_ hSw
     (try dsimp only at hSw)
     go_simp
     first | done | with_reducible rfl
   try simp only [Act.put, List.setIfInBounds_toArray, List.set_cons_zero, List.set_cons_succ]
   refine wpAnyH_take (i := 1) (oi := { dst := some 33, op := Op.move (Operand.tmp 0), type := 86, pos := "wire.go:45", after := #[], guard := none }) (v := ?_) rfl (by kernel_rfl) (by kernel_rfl) (by kernel_rfl) (fun _ _ _ h => h) (Or.inl ⟨by rfl, ?_⟩) (by assumption) ?_
   rotate_left
   · intro w_ hSw
     (try dsimp only at hSw)
     go_simp
     first | done | with_reducible rfl
   try simp only [Act.put, List.setIfInBounds_toArray, List.set_cons_zero, List.set_cons_succ]
   refine wpAnyH_take (i := 2) (oi := { dst := some 34, op := Op.nilCheck (Operand.tmp 33), type := 0, pos := "wire.go:45", after := #[{ on := 1, ground := Ground.data }], guard := none }) (v := ?_) rfl (by kernel_rfl) (by kernel_rfl) (by kernel_rfl) (fun _ _ _ h => h) (Or.inl ⟨by rfl, ?_⟩) (by assumption) ?_
   rotate_left
   · intro w_ hSw
     (try dsimp only at hSw)
     go_simp
     first | done | with_reducible rfl
   try simp only [Act.put, List.setIfInBounds_toArray, List.set_cons_zero, List.set_cons_succ]
   refine wpAnyH_take (i := 3) (oi := { dst := some 35, op := Op.fieldAddr 132 (Operand.tmp 34) 0, type := 0, pos := "wire.go:45", after := #[{ on := 2, ground := Ground.data }], guard := none }) (v := ?_) rfl (by kernel_rfl) (by kernel_rfl) (by kernel_rfl) (fun _ _ _ h => h) (Or.inl ⟨by rfl, ?_⟩) (by assumption) ?_
   rotate_left
   · intro w_ hSw
     (try dsimp only at hSw)
     go_simp
     first | done | with_reducible rfl
   try simp only [Act.put, List.setIfInBounds_toArray, List.set_cons_zero, List.set_cons_succ]
   refine wpAnyH_take (i := 5) (oi := { dst := some 37, op := Op.move (Operand.tmp 1), type := 39, pos := "wire.go:45", after := #[], guard := none }) (v := ?_) rfl (by kernel_rfl) (by kernel_rfl) (by kernel_rfl) (fun _ _ _ h => h) (Or.inl ⟨by rfl, ?_⟩) (by assumption) ?_
   rotate_left
   · intro w_ hSw
     (try dsimp only at hSw)
     go_simp
     first | done | with_reducible rfl
   try simp only [Act.put, List.setIfInBounds_toArray, List.set_cons_zero, List.set_cons_succ]
   refine wpAnyH_take (i := 6) (oi := { dst := some 38, op := Op.move (Operand.tmp 2), type := 3, pos := "wire.go:45", after := #[], guard := none }) (v := ?_) rfl (by kernel_rfl) (by kernel_rfl) (by kernel_rfl) (fun _ _ _ h => h) (Or.inl ⟨by rfl, ?_⟩) (by assumption) ?_
   rotate_left
   · intro w_ hSw
     (try dsimp only at hSw)
     go_simp
     first | done | with_reducible rfl
   try simp only [Act.put, List.setIfInBounds_toArray, List.set_cons_zero, List.set_cons_succ]
   refine wpAnyH_take (i := 7) (oi := { dst := some 39, op := Op.binOp BinOp.mul 3 (Operand.const (Value.int IntKind.i64 8)) (Operand.tmp 38) 3, type := 3, pos := "wire.go:45", after := #[{ on := 6, ground := Ground.data }], guard := none }) (v := ?_) rfl (by kernel_rfl) (by kernel_rfl) (by kernel_rfl) (fun _ _ _ h => h) (Or.inl ⟨by rfl, ?_⟩) (by assumption) ?_
   rotate_left
   · intro w_ hSw
     (try dsimp only at hSw)
     go_simp
     first | done | with_reducible rfl
   try simp only [Act.put, List.setIfInBounds_toArray, List.set_cons_zero, List.set_cons_succ]
   refine wpAnyH_take (i := 8) (oi := { dst := some 40, op := Op.binOp BinOp.shr 39 (Operand.tmp 37) (Operand.tmp 39) 3, type := 39, pos := "wire.go:45", after := #[{ on := 5, ground := Ground.data }, { on := 7, ground := Ground.data }], guard := none }) (v := ?_) rfl (by kernel_rfl) (by kernel_rfl) (by kernel_rfl) (fun _ _ _ h => h) (Or.inl ⟨by rfl, ?_⟩) (by assumption) ?_
   rotate_left
   · intro w_ hSw
     (try dsimp only at hSw)
     go_simp
     first | done | with_reducible rfl
   try simp only [Act.put, List.setIfInBounds_toArray, List.set_cons_zero, List.set_cons_succ]
   refine wpAnyH_take (i := 9) (oi := { dst := some 41, op := Op.convert 39 5 (Operand.tmp 40), type := 5, pos := "wire.go:45", after := #[{ on := 8, ground := Ground.data }], guard := none }) (v := ?_) rfl (by kernel_rfl) (by kernel_rfl) (by kernel_rfl) (fun _ _ _ h => h) (Or.inl ⟨by rfl, ?_⟩) (by assumption) ?_
   rotate_left
   · intro w_ hSw
     (try dsimp only at hSw)
     go_simp
     first | done | with_reducible rfl
   try simp only [Act.put, List.setIfInBounds_toArray, List.set_cons_zero, List.set_cons_succ]
   refine wpAnyH_ready (rs := [4, 10]) (by kernel_rfl) (by simp) ?_
   refine AllReadyH.cons (o := { dst := some 36, op := Op.load 130 (Operand.tmp 35), type := 130, pos := "wire.go:45", after := #[{ on := 3, ground := Ground.data }], guard := none }) rfl (fun K hK => ?_) (AllReadyH.cons (o := { dst := some 42, op := Op.buildSlice 130 1 #[(0, Operand.tmp 41)], type := 130, pos := "wire.go:45", after := #[{ on := 9, ground := Ground.data }], guard := none }) rfl (fun K hK => ?_) (AllReadyH.nil))
   · skip
     go_simp
     skip
     refine hK.out _ _ ?_ (fun hHeld => ?_)
     · trivial
     clear hK K
     try simp only [Act.put, List.setIfInBounds_toArray, List.set_cons_zero, List.set_cons_succ]
     refine wpAnyH_ready (rs := [10]) (by kernel_rfl) (by simp) ?_
     refine AllReadyH.cons (o := { dst := some 42, op := Op.buildSlice 130 1 #[(0, Operand.tmp 41)], type := 130, pos := "wire.go:45", after := #[{ on := 9, ground := Ground.data }], guard := none }) rfl (fun K hK => ?_) AllReadyH.nil
     go_simp
     skip
     refine hK.out _ _ ?_ (fun hHeld => ?_)
     · trivial
     clear hK K
     try simp only [Act.put, List.setIfInBounds_toArray, List.set_cons_zero, List.set_cons_succ]
     refine wpAnyH_ready (rs := [11]) (by kernel_rfl) (by simp) ?_
     refine AllReadyH.cons (o := { dst := some 43, op := Op.call { callee := Callee.builtin Builtin.append, args := #[Operand.tmp 36, Operand.tmp 42], argTypes := #[130, 130] }, type := 130, pos := "wire.go:45", after := #[{ on := 4, ground := Ground.data }, { on := 10, ground := Ground.data }], guard := none }) rfl (fun K hK => ?_) AllReadyH.nil
     refine step_app1 rfl (.tmp 36) (.tmp 42) rfl B vv (l ++ (fix2 v).take 0) rfl (by repeat (first | exact HO.out | refine OwnN.drewN ?_ _ | refine OwnN.drew ?_ | refine OwnN.alloc ?_ _)) ⟨wr.heap.size, 0, none⟩ 1 (UInt8.ofNat (v / 256)) rfl (((GR.Blk.new _ _ _).cell 0).trans (congrArg (fun z => some (Value.int .u8 z)) HV.out)) (by simp [fix2]; omega) (by simp; omega) ?_
     intro v3 w3 ho_ hg_
     obtain ⟨A3, n3, c3, rfl⟩ := ho_.slice'
     have G3 : Hid (wr.grownBy w3 vv.ownBlock) := Lib.hid (GR.grown_step (GR.grown_of_bl (by repeat (first | exact Below.refl _ _ | refine bl_drewN ?_ _ | refine bl_drew ?_ | refine bl_alloc ?_ _)) vv.ownBlock) hg_ (.inl rfl))
     have B3 : Hid (GR.Blk w3 g 132 #[vv]) := Lib.hid (BG.out.grown G3.out (Ne.symm (HO.out.ne_blk BG.out (by decide))))
     have HO3 := Lib.hid ho_
     have HB3 := Lib.hid (hb.out.grown G3.out hBr (fun b hb => (HO.out.lt b hb).1))
     clear ho_ hg_ G3
     have d0 : w3.cell? ⟨g, 0, none⟩ = some vv := B3.out.cell 0
     have d1 := B3.out.frozen 0
     refine hK.out _ _ ?_ (fun hHeld => ?_)
     · trivial
     clear hK K
     try simp only [Act.put, List.setIfInBounds_toArray, List.set_cons_zero, List.set_cons_succ]
     refine wpAnyH_take (i := 12) (oi := { dst := some 44, op := Op.nilCheck (Operand.tmp 32), type := 0, pos := "wire.go:45", after := #[{ on := 0, ground := Ground.data }, { on := 0, ground := Ground.phase }, { on := 1, ground := Ground.phase }, { on := 2, ground := Ground.phase }, { on := 3, ground := Ground.phase }, { on := 4, ground := Ground.phase }, { on := 5, ground := Ground.phase }, { on := 6, ground := Ground.phase }, { on := 7, ground := Ground.phase }, { on := 8, ground := Ground.phase }, { on := 9, ground := Ground.phase }, { on := 10, ground := Ground.phase }, { on := 11, ground := Ground.phase }], guard := none }) (v := ?_) rfl (by kernel_rfl) (by kernel_rfl) (by kernel_rfl) (fun _ _ _ h => h) (Or.inl ⟨by rfl, ?_⟩) (by assumption) ?_
     rotate_left
     · intro w_ hSw
       (try dsimp only at hSw)
       go_simp
       first | done | with_reducible rfl
     try simp only [Act.put, List.setIfInBounds_toArray, List.set_cons_zero, List.set_cons_succ]
     refine wpAnyH_take (i := 13) (oi := { dst := some 45, op := Op.fieldAddr 132 (Operand.tmp 44) 0, type := 0, pos := "wire.go:45", after := #[{ on := 12, ground := Ground.data }, { on := 0, ground := Ground.phase }, { on := 1, ground := Ground.phase }, { on := 2, ground := Ground.phase }, { on := 3, ground := Ground.phase }, { on := 4, ground := Ground.phase }, { on := 5, ground := Ground.phase }, { on := 6, ground := Ground.phase }, { on := 7, ground := Ground.phase }, { on := 8, ground := Ground.phase }, { on := 9, ground := Ground.phase }, { on := 10, ground := Ground.phase }, { on := 11, ground := Ground.phase }], guard := none }) (v := ?_) rfl (by kernel_rfl) (by kernel_rfl) (by kernel_rfl) (fun _ _ _ h => h) (Or.inl ⟨by rfl, ?_⟩) (by assumption) ?_
     rotate_left
     · intro w_ hSw
       (try dsimp only at hSw)
       go_simp
       first | done | with_reducible rfl
     try simp only [Act.put, List.setIfInBounds_toArray, List.set_cons_zero, List.set_cons_succ]
     refine wpAnyH_ready (rs := [14]) (by kernel_rfl) (by simp) ?_
     refine AllReadyH.cons (o := { dst := none, op := Op.store 130 (Operand.tmp 45) (Operand.tmp 43), type := 0, pos := "wire.go:45", after := #[{ on := 13, ground := Ground.data }, { on := 11, ground := Ground.data }, { on := 11, ground := Ground.chain }, { on := 0, ground := Ground.phase }, { on := 1, ground := Ground.phase }, { on := 2, ground := Ground.phase }, { on := 3, ground := Ground.phase }, { on := 4, ground := Ground.phase }, { on := 5, ground := Ground.phase }, { on := 6, ground := Ground.phase }, { on := 7, ground := Ground.phase }, { on := 8, ground := Ground.phase }, { on := 9, ground := Ground.phase }, { on := 10, ground := Ground.phase }, { on := 11, ground := Ground.phase }], guard := none }) rfl (fun K hK => ?_) AllReadyH.nil
     go_simp
     skip
     refine hK.out _ _ ?_ (fun hHeld => ?_)
     · trivial
     clear hK K
     try simp only [Act.put, List.setIfInBounds_toArray, List.set_cons_zero, List.set_cons_succ]
     refine wpAnyH_done (by kernel_rfl) ?_ _
     go_wp2
     go_roundw
     case rel => exact ⟨1, by omega, by go_num, Lib.hid (by first | exact ⟨hB, _, B3.out.set_ 0 _, by have h9 := HO3.out.set_ (HO3.out.ne_blk (t := 132) B3.out (by decide)) (p := ⟨g, 0, none⟩) (.slice A3 n3 c3); simpa [fix2] using h9⟩ | exact ⟨hB, _, (B3.out.set_ 0 _).drewN _, by have h9 := (HO3.out.set_ (HO3.out.ne_blk (t := 132) B3.out (by decide)) (p := ⟨g, 0, none⟩) (.slice A3 n3 c3)).drewN _; simpa [fix2] using h9⟩), Lib.hid (by first | exact HB3.out.setCell hB _ | exact (HB3.out.setCell hB _).drewN _)⟩
     case measure => simp [intOf]
   · skip
     go_simp
     skip
     refine hK.out _ _ ?_ (fun hHeld => ?_)
     · trivial
     clear hK K
     try simp only [Act.put, List.setIfInBounds_toArray, List.set_cons_zero, List.set_cons_succ]
     refine wpAnyH_ready (rs := [4]) (by kernel_rfl) (by simp) ?_
     refine AllReadyH.cons (o := { dst := some 36, op := Op.load 130 (Operand.tmp 35), type := 130, pos := "wire.go:45", after := #[{ on := 3, ground := Ground.data }], guard := none }) rfl (fun K hK => ?_) AllReadyH.nil
     go_simp
     skip
     refine hK.out _ _ ?_ (fun hHeld => ?_)
     · trivial
     clear hK K
     try simp only [Act.put, List.setIfInBounds_toArray, List.set_cons_zero, List.set_cons_succ]
     refine wpAnyH_ready (rs := [11]) (by kernel_rfl) (by simp) ?_
     refine AllReadyH.cons (o := { dst := some 43, op := Op.call { callee := Callee.builtin Builtin.append, args := #[Operand.tmp 36, Operand.tmp 42], argTypes := #[130, 130] }, type := 130, pos := "wire.go:45", after := #[{ on := 4, ground := Ground.data }, { on := 10, ground := Ground.data }], guard := none }) rfl (fun K hK => ?_) AllReadyH.nil
     refine step_app1 rfl (.tmp 36) (.tmp 42) rfl B vv (l ++ (fix2 v).take 0) rfl (by repeat (first | exact HO.out | refine OwnN.drewN ?_ _ | refine OwnN.drew ?_ | refine OwnN.alloc ?_ _)) ⟨wr.heap.size, 0, none⟩ 1 (UInt8.ofNat (v / 256)) rfl (((GR.Blk.new _ _ _).cell 0).trans (congrArg (fun z => some (Value.int .u8 z)) HV.out)) (by simp [fix2]; omega) (by simp; omega) ?_
     intro v3 w3 ho_ hg_
     obtain ⟨A3, n3, c3, rfl⟩ := ho_.slice'
     have G3 : Hid (wr.grownBy w3 vv.ownBlock) := Lib.hid (GR.grown_step (GR.grown_of_bl (by repeat (first | exact Below.refl _ _ | refine bl_drewN ?_ _ | refine bl_drew ?_ | refine bl_alloc ?_ _)) vv.ownBlock) hg_ (.inl rfl))
     have B3 : Hid (GR.Blk w3 g 132 #[vv]) := Lib.hid (BG.out.grown G3.out (Ne.symm (HO.out.ne_blk BG.out (by decide))))
     have HO3 := Lib.hid ho_
     have HB3 := Lib.hid (hb.out.grown G3.out hBr (fun b hb => (HO.out.lt b hb).1))
     clear ho_ hg_ G3
     have d0 : w3.cell? ⟨g, 0, none⟩ = some vv := B3.out.cell 0
     have d1 := B3.out.frozen 0
     refine hK.out _ _ ?_ (fun hHeld => ?_)
     · trivial
     clear hK K
     try simp only [Act.put, List.setIfInBounds_toArray, List.set_cons_zero, List.set_cons_succ]
     refine wpAnyH_take (i := 12) (oi := { dst := some 44, op := Op.nilCheck (Operand.tmp 32), type := 0, pos := "wire.go:45", after := #[{ on := 0, ground := Ground.data }, { on := 0, ground := Ground.phase }, { on := 1, ground := Ground.phase }, { on := 2, ground := Ground.phase }, { on := 3, ground := Ground.phase }, { on := 4, ground := Ground.phase }, { on := 5, ground := Ground.phase }, { on := 6, ground := Ground.phase }, { on := 7, ground := Ground.phase }, { on := 8, ground := Ground.phase }, { on := 9, ground := Ground.phase }, { on := 10, ground := Ground.phase }, { on := 11, ground := Ground.phase }], guard := none }) (v := ?_) rfl (by kernel_rfl) (by kernel_rfl) (by kernel_rfl) (fun _ _ _ h => h) (Or.inl ⟨by rfl, ?_⟩) (by assumption) ?_
     rotate_left
     · intro w_ hSw
       (try dsimp only at hSw)
       go_simp
       first | done | with_reducible rfl
     try simp only [Act.put, List.setIfInBounds_toArray, List.set_cons_zero, List.set_cons_succ]
     refine wpAnyH_take (i := 13) (oi := { dst := some 45, op := Op.fieldAddr 132 (Operand.tmp 44) 0, type := 0, pos := "wire.go:45", after := #[{ on := 12, ground := Ground.data }, { on := 0, ground := Ground.phase }, { on := 1, ground := Ground.phase }, { on := 2, ground := Ground.phase }, { on := 3, ground := Ground.phase }, { on := 4, ground := Ground.phase }, { on := 5, ground := Ground.phase }, { on := 6, ground := Ground.phase }, { on := 7, ground := Ground.phase }, { on := 8, ground := Ground.phase }, { on := 9, ground := Ground.phase }, { on := 10, ground := Ground.phase }, { on := 11, ground := Ground.phase }], guard := none }) (v := ?_) rfl (by kernel_rfl) (by kernel_rfl) (by kernel_rfl) (fun _ _ _ h => h) (Or.inl ⟨by rfl, ?_⟩) (by assumption) ?_
     rotate_left
     · intro w_ hSw
       (try dsimp only at hSw)
       go_simp
       first | done | with_reducible rfl
     try simp only [Act.put, List.setIfInBounds_toArray, List.set_cons_zero, List.set_cons_succ]
     refine wpAnyH_ready (rs := [14]) (by kernel_rfl) (by simp) ?_
     refine AllReadyH.cons (o := { dst := none, op := Op.store 130 (Operand.tmp 45) (Operand.tmp 43), type := 0, pos := "wire.go:45", after := #[{ on := 13, ground := Ground.data }, { on := 11, ground := Ground.data }, { on := 11, ground := Ground.chain }, { on := 0, ground := Ground.phase }, { on := 1, ground := Ground.phase }, { on := 2, ground := Ground.phase }, { on := 3, ground := Ground.phase }, { on := 4, ground := Ground.phase }, { on := 5, ground := Ground.phase }, { on := 6, ground := Ground.phase }, { on := 7, ground := Ground.phase }, { on := 8, ground := Ground.phase }, { on := 9, ground := Ground.phase }, { on := 10, ground := Ground.phase }, { on := 11, ground := Ground.phase }], guard := none }) rfl (fun K hK => ?_) AllReadyH.nil
     go_simp
     skip
     refine hK.out _ _ ?_ (fun hHeld => ?_)
     · trivial
     clear hK K
     try simp only [Act.put, List.setIfInBounds_toArray, List.set_cons_zero, List.set_cons_succ]
     refine wpAnyH_done (by kernel_rfl) ?_ _
     go_wp2
     go_roundw
     case rel => exact ⟨1, by omega, by go_num, Lib.hid (by first | exact ⟨hB, _, B3.out.set_ 0 _, by have h9 := HO3.out.set_ (HO3.out.ne_blk (t := 132) B3.out (by decide)) (p := ⟨g, 0, none⟩) (.slice A3 n3 c3); simpa [fix2] using h9⟩ | exact ⟨hB, _, (B3.out.set_ 0 _).drewN _, by have h9 := (HO3.out.set_ (HO3.out.ne_blk (t := 132) B3.out (by decide)) (p := ⟨g, 0, none⟩) (.slice A3 n3 c3)).drewN _; simpa [fix2] using h9⟩), Lib.hid (by first | exact HB3.out.setCell hB _ | exact (HB3.out.setCell hB _).drewN _)⟩
     case measure => simp [intOf]
end Go.Proofs.Ytljfigikkajlnaa
