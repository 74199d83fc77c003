/- DERIVED. The document's Pack of an object: the plain cell; the walk. -/
import Derived.Test.YtljfigikkajlnaaVObDoc
import Derived.WalkMore
namespace Go.Proofs.Ytljfigikkajlnaa
open Go.RowKit Go.Lib
set_option linter.unusedVariables false
set_option linter.unusedSimpArgs false
def placeN (key : ByteArray) : Nat := (placeI key).toNat
theorem placeN_lt (key : ByteArray) : placeN key < 4096 ∧ ((placeN key : Nat) : Int) = placeI key := by
  have h1 := bv_lt (shaB (placeL key) 0)
  have h2 := bv_lt (shaB (placeL key) 1)
  unfold placeN placeI
  omega
def packK (key : ByteArray) : ByteArray := prefS (placeN key) ++ key
def packE (key : ByteArray) (a : List Dot) (l : List Sib) : Int := if chkE key a l = 0 then (if absB a l then 110 else 0) else chkE key a l
def packC (key : ByteArray) (a : List Dot) (l : List Sib) : ByteArray × ByteArray := if packE key a l = 0 then (packK key, ⟨(encS a l).toArray⟩) else (⟨#[]⟩, ⟨#[]⟩)
theorem chk_cases {key : ByteArray} {a : List Dot} {l : List Sib} (h : chkE key a l = 0) : keyB key = true ∧ staB a l = true ∧ (encS a l).length ≤ 280 := by
  unfold chkE at h
  by_cases h1 : keyB key = true
  · by_cases h2 : staB a l = true
    · rw [h1, h2] at h
      simp only [Bool.true_eq_false, if_false] at h
      split at h
      · omega
      · exact ⟨h1, h2, by omega⟩
    · have h2' : staB a l = false := by simpa using h2
      rw [h1, h2'] at h
      simp at h
  · have h1' : keyB key = false := by simpa using h1
    rw [h1'] at h
    simp at h
theorem dfixed2_any (n : Nat) (h : n < 4096) (w : World) : Calls Try.prog 89 #[.int .u64 n, .int .i64 2] w fun e w' => e = .returned (.string (prefS n)) ∧ Below w.heap.size w w' := by
  have hf := fixed_any n 2 (by omega) (by omega) (by omega) w
  rw [fixL_two n h] at hf
  exact hf
theorem prefS_size (n : Nat) : (prefS n).size = 2 := by simp [prefS, strOfNums_size]
set_option maxRecDepth 100000 in
set_option maxHeartbeats 6400000 in
theorem dpack_any (key : ByteArray) (A C : Option Addr) (n c m d : Nat) (a : List Dot) (l : List Sib) (w : World) (ha : GR.Rd dotK w A a) (hl : GR.Rd sibK w C l) (hn : n = a.length) (hm : m = l.length) (hr : StR a l) :
    Calls Try.prog 39 #[.agg #[.string key, .slice A n c, .slice C m d]] w fun e w' => e = .returned (.tuple #[.agg #[.string (packC key a l).1, .string (packC key a l).2], .int .i64 (packE key a l)]) ∧ Below w.heap.size w w' := by
  have HA := Lib.hid ha
  have HL := Lib.hid hl
  have HR := Lib.hid hr
  have HN := Lib.hid hn
  have HM := Lib.hid hm
  clear ha hl hr hn hm
  go_enter Try.func39, Try.ntmps39
  go_wp2_with fail
  obtain ⟨W1, hW1⟩ : ∃ W1 : World, W1 = (w.alloc (.cells #[.string key, .slice A n c, .slice C m d] 27)).alloc (.cells #[.string ⟨#[]⟩, .string ⟨#[]⟩] 48) := ⟨_, rfl⟩
  rw [← hW1]
  have LW : Hid (Below w.heap.size w W1) := Lib.hid (by rw [hW1]; exact (by repeat (first | exact Below.refl _ _ | refine bl_drewN ?_ _ | refine bl_drew ?_ | refine bl_alloc ?_ _)))
  have XO : Hid (GR.Blk W1 w.heap.size 27 #[.string key, .slice A n c, .slice C m d]) := Lib.hid (by rw [hW1]; exact (GR.Blk.new _ _ _).alloc _)
  have XR : Hid (GR.Blk W1 (w.heap.size + 1) 48 #[.string ⟨#[]⟩, .string ⟨#[]⟩]) := Lib.hid (by rw [hW1]; exact new_at _ _ _ (by simp))
  clear hW1
  refine (dcheck_any key A C n c m d a l _ (HA.out.below LW.out) (HL.out.below LW.out) HN.out HM.out HR.out).mono ?_
  rintro e w2 ⟨rfl, hb⟩
  have B2 := Lib.hid (bl_then LW.out hb)
  have O2 := Lib.hid (XO.out.below hb XO.out.lt)
  have R2 := Lib.hid (XR.out.below hb XR.out.lt)
  clear hb
  have rn : w.heap.size ≠ w.heap.size + 1 := by omega
  by_cases h1 : chkE key a l = 0
  · rw [h1]
    obtain ⟨k1, k2, k3⟩ := chk_cases h1
    have K1 := Lib.hid k1
    have o0 : w2.cell? ⟨w.heap.size, 0, none⟩ = some (.string key) := O2.out.cell 0
    have o1 : w2.cell? ⟨w.heap.size, 1, none⟩ = some (.slice A n c) := O2.out.cell 1
    have o2 : w2.cell? ⟨w.heap.size, 2, none⟩ = some (.slice C m d) := O2.out.cell 2
    obtain ⟨t1, t2⟩ := encT_yes k2
    have T1 := Lib.hid t1
    have T2 := Lib.hid t2
    have HC := Lib.hid h1
    have ksz := Lib.hid ((keyB_iff key).1 k1)
    clear t1 t2 k1 k2 k3 h1
    go_wp2_with fail
    clear o0 o1 o2
    refine (dabsent_any key A C n c m d a l _ HN.out HM.out).mono ?_
    rintro e w3 ⟨rfl, hb⟩
    have B3 := Lib.hid (bl_then B2.out hb)
    have O3 := Lib.hid (O2.out.below hb O2.out.lt)
    have R3 := Lib.hid (R2.out.below hb R2.out.lt)
    clear hb
    by_cases h2 : absB a l = true
    · have HP := Lib.hid (show packE key a l = 110 by rw [packE, if_pos HC.out, if_pos h2])
      have HD := Lib.hid (show packC key a l = (⟨#[]⟩, ⟨#[]⟩) by rw [packC, HP.out]; rfl)
      have r0 : w3.cell? ⟨w.heap.size + 1, 0, none⟩ = some (.string ⟨#[]⟩) := R3.out.cell 0
      have r1 : w3.cell? ⟨w.heap.size + 1, 1, none⟩ = some (.string ⟨#[]⟩) := R3.out.cell 1
      have r2 := R3.out.frozen 0
      have r3 := R3.out.frozen 1
      rw [h2]
      clear h2
      go_wp2
      exact bodyPost_ret (v := .tuple #[.agg #[.string ⟨#[]⟩, .string ⟨#[]⟩], .int .i64 110]) (by simp [results, Try.results39, go_sem, r0, r1, r2, r3]) rfl ⟨by rw [HP.out, HD.out], (B3.out.setCell (p := ⟨w.heap.size + 1, 0, none⟩) (by show w.heap.size ≤ w.heap.size + 1; omega) _).setCell (p := ⟨w.heap.size + 1, 1, none⟩) (by show w.heap.size ≤ w.heap.size + 1; omega) _⟩
    · have h2' : absB a l = false := by simpa using h2
      have HP := Lib.hid (show packE key a l = 0 by rw [packE, if_pos HC.out, if_neg h2])
      have HD := Lib.hid (show packC key a l = (packK key, ⟨(encS a l).toArray⟩) by rw [packC, HP.out]; rfl)
      rw [h2']
      clear h2 h2'
      obtain ⟨P, hP⟩ : ∃ P, P = placeN key := ⟨_, rfl⟩
      have hlt : P < 4096 := by rw [hP]; exact (placeN_lt key).1
      have hPI : placeI key = (P : Int) := by rw [hP]; exact (placeN_lt key).2.symm
      have HPN := Lib.hid hP
      have HPI := Lib.hid hPI
      clear hP hPI
      have o0 : w3.cell? ⟨w.heap.size, 0, none⟩ = some (.string key) := O3.out.cell 0
      go_wp2_with fail
      clear o0
      refine (dplace_yes key K1.out _).mono ?_
      rintro e w4 ⟨rfl, hb⟩
      rw [HPI.out]
      have B4 := Lib.hid (bl_then B3.out hb)
      have O4 := Lib.hid (O3.out.below hb O3.out.lt)
      have R4 := Lib.hid (R3.out.below hb R3.out.lt)
      clear hb
      have o1 : w4.cell? ⟨w.heap.size, 1, none⟩ = some (.slice A n c) := O4.out.cell 1
      have o2 : w4.cell? ⟨w.heap.size, 2, none⟩ = some (.slice C m d) := O4.out.cell 2
      go_wp2_with fail
      clear o1 o2
      refine (refEncO_any A C n c m d a l _ _ _ (HA.out.below B4.out) (HL.out.below B4.out) HN.out HM.out HR.out T1.out T2.out).mono ?_
      rintro e w5 ⟨rfl, hb⟩
      have B5 := Lib.hid (bl_then B4.out hb)
      have O5 := Lib.hid (O4.out.below hb O4.out.lt)
      have R5 := Lib.hid (R4.out.below hb R4.out.lt)
      clear hb
      have K0 := Lib.hid (show w5.cell? ⟨w.heap.size, 0, none⟩ = some (.string key) from O5.out.cell 0)
      have HR5 := Lib.hid (Below.refl w5.heap.size w5)
      have e6 : IntKind.u64.wrap (P : Int) = (P : Int) := IntWalk.u64_in _ (by omega)
      have hcat : ∀ W, (Op.stringOp .add (prefS P) key).run Try.prog W = .ok (.string (prefS P ++ key)) W := fun W => run_string_add_sum W _ _ (by have := ksz.out.2; rw [prefS_size]; omega)
      go_wp2
      refine wp_region_held_drew (S := fun w' => w'.cell? ⟨w.heap.size, 0, none⟩ = some (.string key)) (by kernel_rfl) ?_ (fun hHeld => ?_)
      · exact K0.out
      refine wpAnyH_take (i := 0) (oi := { dst := some 30, op := Op.move (Operand.tmp 5), type := 3, pos := "ref.go:143", after := #[], guard := none }) (v := ?_) rfl (by kernel_rfl) (by kernel_rfl) (by kernel_rfl) (fun _ _ _ h => h) (Or.inl ⟨by rfl, ?_⟩) (by assumption) ?_
      rotate_left
      · intro w_ hSw
        (try dsimp only at hSw)
        go_simp
        first | done | with_reducible rfl
      try simp only [Act.put, List.setIfInBounds_toArray, List.set_cons_zero, List.set_cons_succ]
      refine wpAnyH_take (i := 1) (oi := { dst := some 31, op := Op.convert 3 39 (Operand.tmp 30), type := 39, pos := "ref.go:143", after := #[{ on := 0, ground := Ground.data }], guard := none }) (v := ?_) rfl (by kernel_rfl) (by kernel_rfl) (by kernel_rfl) (fun _ _ _ h => h) (Or.inl ⟨by rfl, ?_⟩) (by assumption) ?_
      rotate_left
      · intro w_ hSw
        (try dsimp only at hSw)
        go_simp
        first | done | with_reducible rfl
      try simp only [Act.put, List.setIfInBounds_toArray, List.set_cons_zero, List.set_cons_succ]
      refine wpAnyH_take (i := 3) (oi := { dst := some 33, op := Op.fieldAddr 27 (Operand.tmp 1) 0, type := 0, pos := "ref.go:143", after := #[], guard := none }) (v := ?_) rfl (by kernel_rfl) (by kernel_rfl) (by kernel_rfl) (fun _ _ _ h => h) (Or.inl ⟨by rfl, ?_⟩) (by assumption) ?_
      rotate_left
      · intro w_ hSw
        (try dsimp only at hSw)
        go_simp
        first | done | with_reducible rfl
      try simp only [Act.put, List.setIfInBounds_toArray, List.set_cons_zero, List.set_cons_succ]
      refine wpAnyH_take (i := 4) (oi := { dst := some 34, op := Op.load 9 (Operand.tmp 33), type := 9, pos := "ref.go:143", after := #[{ on := 3, ground := Ground.data }], guard := none }) (v := ?_) rfl (by kernel_rfl) (by kernel_rfl) (by kernel_rfl) (fun _ _ _ h => h) (Or.inl ⟨by rfl, ?_⟩) (by assumption) ?_
      rotate_left
      · intro w_ hSw
        (try dsimp only at hSw)
        go_simp
        first | done | with_reducible rfl
      try simp only [Act.put, List.setIfInBounds_toArray, List.set_cons_zero, List.set_cons_succ]
      refine wpAnyH_take (i := 6) (oi := { dst := some 36, op := Op.move (Operand.tmp 7), type := 9, pos := "ref.go:143", after := #[], guard := none }) (v := ?_) rfl (by kernel_rfl) (by kernel_rfl) (by kernel_rfl) (fun _ _ _ h => h) (Or.inl ⟨by rfl, ?_⟩) (by assumption) ?_
      rotate_left
      · intro w_ hSw
        (try dsimp only at hSw)
        go_simp
        first | done | with_reducible rfl
      try simp only [Act.put, List.setIfInBounds_toArray, List.set_cons_zero, List.set_cons_succ]
      refine wpAnyH_ready (rs := [2]) (by kernel_rfl) (by simp) ?_
      refine AllReadyH.cons (o := { dst := some 32, op := Op.call { callee := Callee.value (Operand.func 89), args := #[Operand.tmp 31, Operand.const (Value.int IntKind.i64 2)], argTypes := #[39, 3] }, type := 9, pos := "ref.go:143", after := #[{ on := 1, ground := Ground.data }], guard := none }) rfl (fun K hK => ?_) (AllReadyH.nil)
      go_simp
      refine (dfixed2_any P hlt _).mono ?_
      rintro e w6 ⟨rfl, hb2⟩
      have N_ := Lib.hid (bl_then (w := w5) (by repeat (first | exact HR5.out | refine bl_drewN ?_ _ | refine bl_drew ?_ | refine bl_alloc ?_ _)) hb2)
      clear hb2 HR5
      have HR5 := N_
      clear N_
      have R6 := Lib.hid (R5.out.below HR5.out R5.out.lt)
      have r0 : w6.cell? ⟨w.heap.size + 1, 0, none⟩ = some (.string ⟨#[]⟩) := R6.out.cell 0
      have r1 : w6.cell? ⟨w.heap.size + 1, 1, none⟩ = some (.string ⟨#[]⟩) := R6.out.cell 1
      have r2 := R6.out.frozen 0
      have r3 := R6.out.frozen 1
      refine hK.out _ _ ?_ (fun hHeld => ?_)
      · first | go_keep | exact (HR5.out.cell (World.block_lt_of_cell? w5 _ K0.out)).trans K0.out
      clear hK K
      try simp only [Act.put, List.setIfInBounds_toArray, List.set_cons_zero, List.set_cons_succ]
      refine wpAnyH_take (i := 5) (oi := { dst := some 35, op := Op.binOp BinOp.add 9 (Operand.tmp 32) (Operand.tmp 34) 9, type := 9, pos := "ref.go:143", after := #[{ on := 2, ground := Ground.data }, { on := 4, ground := Ground.data }], guard := none }) (v := ?_) rfl (by kernel_rfl) (by kernel_rfl) (by kernel_rfl) (fun _ _ _ h => h) (Or.inl ⟨by rfl, ?_⟩) (by assumption) ?_
      rotate_left
      · intro w_ hSw
        (try dsimp only at hSw)
        go_simp
        first | done | with_reducible rfl
      try simp only [Act.put, List.setIfInBounds_toArray, List.set_cons_zero, List.set_cons_succ]
      refine wpAnyH_take (i := 7) (oi := { dst := some 37, op := Op.build 48 #[(0, Operand.tmp 35), (1, Operand.tmp 36)], type := 48, pos := "ref.go:143", after := #[{ on := 5, ground := Ground.data }, { on := 6, ground := Ground.data }], guard := none }) (v := ?_) rfl (by kernel_rfl) (by kernel_rfl) (by kernel_rfl) (fun _ _ _ h => h) (Or.inl ⟨by rfl, ?_⟩) (by assumption) ?_
      rotate_left
      · intro w_ hSw
        (try dsimp only at hSw)
        go_simp
        first | done | with_reducible rfl
      try simp only [Act.put, List.setIfInBounds_toArray, List.set_cons_zero, List.set_cons_succ]
      refine wpAnyH_ready (rs := [8]) (by kernel_rfl) (by simp) ?_
      refine AllReadyH.cons (o := { dst := none, op := Op.store 48 (Operand.tmp 2) (Operand.tmp 37), type := 0, pos := "ref.go:143", after := #[{ on := 7, ground := Ground.data }, { on := 2, ground := Ground.chain }, { on := 0, ground := Ground.phase }, { on := 1, ground := Ground.phase }, { on := 2, ground := Ground.phase }, { on := 3, ground := Ground.phase }, { on := 4, ground := Ground.phase }, { on := 5, ground := Ground.phase }, { on := 6, ground := Ground.phase }, { on := 7, ground := Ground.phase }], guard := none }) rfl (fun K hK => ?_) (AllReadyH.nil)
      go_simp
      skip
      refine hK.out _ _ ?_ (fun hHeld => ?_)
      · first | go_keep | exact (HR5.out.cell (World.block_lt_of_cell? w5 _ K0.out)).trans K0.out
      clear hK K
      try simp only [Act.put, List.setIfInBounds_toArray, List.set_cons_zero, List.set_cons_succ]
      refine wpAnyH_take (i := 9) (oi := { dst := some 3, op := Op.assign (Operand.const (Value.int IntKind.i64 0)), type := 33, pos := "ref.go:143", after := #[{ on := 8, ground := Ground.chain }, { on := 0, ground := Ground.phase }, { on := 1, ground := Ground.phase }, { on := 2, ground := Ground.phase }, { on := 3, ground := Ground.phase }, { on := 4, ground := Ground.phase }, { on := 5, ground := Ground.phase }, { on := 6, ground := Ground.phase }, { on := 7, ground := Ground.phase }, { on := 8, ground := Ground.phase }], guard := none }) (v := ?_) rfl (by kernel_rfl) (by kernel_rfl) (by kernel_rfl) (fun _ _ _ h => h) (Or.inl ⟨by rfl, ?_⟩) (by assumption) ?_
      rotate_left
      · intro w_ hSw
        (try dsimp only at hSw)
        go_simp
        first | done | with_reducible rfl
      try simp only [Act.put, List.setIfInBounds_toArray, List.set_cons_zero, List.set_cons_succ]
      refine wpAnyH_done (by kernel_rfl) ?_ _
      go_wp2
      exact bodyPost_ret (v := .tuple #[.agg #[.string (prefS P ++ key), .string ⟨(encS a l).toArray⟩], .int .i64 0]) (by simp [results, Try.results39, go_sem, r0, r1, r2, r3]) rfl ⟨by rw [HP.out, HD.out, packK, ← HPN.out], by repeat (first | exact bl_then B5.out HR5.out | refine bl_drewN ?_ _ | refine bl_drew ?_ | refine Below.setCell ?_ (by show w.heap.size ≤ w.heap.size + 1; omega) _)⟩
  · have HP := Lib.hid (show packE key a l = chkE key a l by rw [packE, if_neg h1])
    have HD := Lib.hid (show packC key a l = (⟨#[]⟩, ⟨#[]⟩) by rw [packC, HP.out, if_neg h1])
    obtain ⟨x, hx⟩ : ∃ x, x = chkE key a l := ⟨_, rfl⟩
    rw [← hx] at h1 HP ⊢
    have q1 : (x != 0) = true := by simpa using h1
    have q2 : decide (x = 0) = false := by simpa using h1
    have r0 : w2.cell? ⟨w.heap.size + 1, 0, none⟩ = some (.string ⟨#[]⟩) := R2.out.cell 0
    have r1 : w2.cell? ⟨w.heap.size + 1, 1, none⟩ = some (.string ⟨#[]⟩) := R2.out.cell 1
    have r2 := R2.out.frozen 0
    have r3 := R2.out.frozen 1
    clear hx h1
    go_wp2
    exact bodyPost_ret (v := .tuple #[.agg #[.string ⟨#[]⟩, .string ⟨#[]⟩], .int .i64 x]) (by simp [results, Try.results39, go_sem, r0, r1, r2, r3]) rfl ⟨by rw [HP.out, HD.out], (B2.out.setCell (p := ⟨w.heap.size + 1, 0, none⟩) (by show w.heap.size ≤ w.heap.size + 1; omega) _).setCell (p := ⟨w.heap.size + 1, 1, none⟩) (by show w.heap.size ≤ w.heap.size + 1; omega) _⟩
end Go.Proofs.Ytljfigikkajlnaa
