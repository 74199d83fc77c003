/- DERIVED. The statements' own helpers: dots and twin. -/
import Derived.Test.YtljfigikkajlnaaVm2
import Derived.Test.YtljfigikkajlnaaVm1
import Derived.Test.YtljfigikkajlnaaVm3
import Derived.Test.YtljfigikkajlnaaVDvPut
import Derived.Test.YtljfigikkajlnaaVm8
import Derived.Test.YtljfigikkajlnaaVObPut
import Derived.Test.YtljfigikkajlnaaVObSame
import Derived.BigRegion
import Derived.Laws.Cover3
namespace Go.Proofs.Ytljfigikkajlnaa
open Go.RowKit
set_option linter.unusedVariables false
set_option linter.unusedSimpArgs false
def mkD : Dot := ⟨9, 1125899906842624⟩
def mkS : Sib := ⟨⟨0, 0⟩, false, ⟨#[109, 97, 114, 107]⟩⟩
set_option maxRecDepth 100000 in
set_option maxHeartbeats 3200000 in
theorem dots_any (A : Option Addr) (c : Nat) (a : List Dot) (w : World) (ha : GR.Rd dotK w A a) (sa : a.length * 16 ≤ 140737488351232) :
    Calls Try.prog 15 #[.slice A a.length c] w fun e w' => ∃ g c1 : Nat, e = .returned (.slice (some ⟨g, 0, none⟩) a.length c1) ∧ GR.Own dotK w' w.heap.size (.slice (some ⟨g, 0, none⟩) (a.length + 1) c1) (a ++ [mkD]) ∧ Below w.heap.size w w' := by
  obtain ⟨i0, hi0, hz0, hz1, hz2⟩ := info_parts dot_info
  have HA := Lib.hid ha
  clear ha
  go_enter Try.func15, Try.ntmps15
  go_wp2_with (first
    | (refine wpList_make_own w rfl (.const (.int .i64 0)) (.tmp 6) 22 rfl w.heap.size 41 i0 _ 2 Try.underlying22 hi0 hz0 hz1 .i64 .i64 ((a.length : Int) + 1) (a.length + 1) rfl rfl (by omega) (by rw [hz2]; omega) (by simp only [maxLen]; omega) (Nat.le_refl _) ?_
       intro w1 O_ G_
       have O1 : Hid (GR.Own dotK w1 w.heap.size (.slice (some ⟨w.heap.size, 0, none⟩) 0 (a.length + 1)) []) := Lib.hid O_
       have B1 := Lib.hid (GR.bl_of_grown (Below.refl w.heap.size w) G_ (fun b hb => by cases hb))
       have HA1 := Lib.hid (HA.out.below B1.out)
       have hs1 : w.heap.size ≤ w1.heap.size := B1.out.size
       clear O_ G_)
    | (at_builtin
       refine GR.app_all (K := dotK) rfl (.tmp 8) (.tmp 9) _ rfl Try.underlying22 hi0 hz0 hz1 hz2 rfl w.heap.size _ [] rfl O1.out _ _ _ a rfl rfl HA1.out (by show (0 + a.length) * 16 ≤ _; omega) hs1 ?_
       intro v2 w2 ho2 hg2 hat2
       obtain ⟨A2, n2, c2, rfl⟩ := own_slice ho2 (by show a.length * 16 ≤ _; omega)
       have O2 : Hid (GR.Own dotK w2 w.heap.size (.slice A2 n2 c2) a) := Lib.hid ho2
       have B2 := Lib.hid (GR.bl_of_grown B1.out hg2 (fun b hb => (O1.out.lt b hb).1))
       have hs2 : w.heap.size ≤ w2.heap.size := B2.out.size
       clear ho2 hg2 hat2)
    | (at_builtin
       refine GR.app_all (K := dotK) rfl (.tmp 11) (.tmp 13) _ rfl Try.underlying22 hi0 hz0 hz1 hz2 rfl w.heap.size _ a rfl (O2.out.alloc _) _ 1 1 [mkD] rfl rfl (GR.rd_new (K := dotK) mkD rfl (by show 16 ≤ 140737488355328; omega)) (by show (a.length + 1) * 16 ≤ _; omega) (Nat.le_trans hs2 (by simp)) ?_
       intro v3 w3 ho3 hg3 hat3
       have O3 := Lib.hid ho3
       have B3 := Lib.hid (GR.bl_of_grown (show Below w.heap.size w _ from (by repeat (first | exact B2.out | refine bl_drewN ?_ _ | refine bl_drew ?_ | refine bl_alloc ?_ _))) hg3 (fun b hb => (O2.out.lt b hb).1))
       obtain ⟨g, c3, rfl, hc3, hx3⟩ := own_lit ho3 (a.length + 1) (by simp) (by omega)
       have q1 : a.length ≤ c3 := by omega
       have q3 : (a.length : Int) ≤ (c3 : Int) := by omega
       clear ho3 hg3 hat3))
  exact bodyPost_ret (v := .slice (some ⟨g, 0, none⟩) a.length c3) (by simp [results, Try.results15, go_sem]) rfl ⟨g, c3, rfl, O3.out, B3.out⟩
set_option maxRecDepth 100000 in
set_option maxHeartbeats 6400000 in
theorem obTwin_any (key : ByteArray) (A B : Option Addr) (c d : Nat) (a : List Dot) (l : List Sib) (w : World) (ha : GR.Rd dotK w A a) (hl : GR.Rd sibK w B l) (sa : a.length * 16 ≤ 140737488351232) (sl : l.length * 40 ≤ 140737488351232) :
    Calls Try.prog 10 #[.agg #[.string key, .slice A a.length c, .slice B l.length d]] w fun e w' => ∃ g1 c1 g2 c2 : Nat, e = .returned (.agg #[.string key, .slice (some ⟨g1, 0, none⟩) a.length c1, .slice (some ⟨g2, 0, none⟩) l.length c2]) ∧
      OwnS w' w.heap.size (.slice (some ⟨g1, 0, none⟩) (a.length + 1) c1) (.slice (some ⟨g2, 0, none⟩) (l.length + 1) c2) (a ++ [mkD]) (l ++ [mkS]) ∧ Below w.heap.size w w' := by
  obtain ⟨j0, hj0, jz0, jz1, jz2⟩ := info_parts sib_info
  have HA := Lib.hid ha
  have HL := Lib.hid hl
  clear ha hl
  go_enter Try.func10, Try.ntmps10
  go_wp2_with (first
    | (obtain ⟨W1, hW1⟩ : ∃ W1 : World, W1 = (w.alloc (.cells #[.string key, .slice A a.length c, .slice B l.length d] 27)).alloc (.cells #[.string ⟨#[]⟩, .slice none 0 0, .slice none 0 0] 27) := ⟨_, rfl⟩
       rw [← hW1]
       have LW : Hid (Below w.heap.size w W1) := Lib.hid (by rw [hW1]; exact (by repeat (first | exact Below.refl _ _ | refine bl_drewN ?_ _ | refine bl_drew ?_ | refine bl_alloc ?_ _)))
       have XA : Hid (GR.Blk W1 w.heap.size 27 #[.string key, .slice A a.length c, .slice B l.length d]) := Lib.hid (by rw [hW1]; exact (GR.Blk.new _ _ _).alloc _)
       have XR : Hid (GR.Blk W1 (w.heap.size + 1) 27 #[.string ⟨#[]⟩, .slice none 0 0, .slice none 0 0]) := Lib.hid (by rw [hW1]; exact new_at _ _ _ (by simp))
       clear hW1
       have hw1 : w.heap.size + 1 ≤ W1.heap.size := Nat.le_of_lt XR.out.lt
       refine wpList_make_own W1 rfl (.const (.int .i64 0)) (.tmp 8) 23 rfl W1.heap.size 67 j0 _ 4 Try.underlying23 hj0 jz0 jz1 .i64 .i64 ((l.length : Int) + 1) (l.length + 1) rfl rfl (by omega) (by rw [jz2]; omega) (by simp only [maxLen]; omega) (Nat.le_refl _) ?_
       intro w1 O_ G_
       have O1 : Hid (GR.Own sibK w1 W1.heap.size (.slice (some ⟨W1.heap.size, 0, none⟩) 0 (l.length + 1)) []) := Lib.hid O_
       have B1 := Lib.hid (GR.bl_of_grown (Below.refl W1.heap.size W1) G_ (fun b hb => by cases hb))
       have HL1 := Lib.hid (HL.out.below (bl_then LW.out B1.out))
       have hs1 : W1.heap.size ≤ w1.heap.size := B1.out.size
       have y2 : w1.cell? ⟨w.heap.size, 2, none⟩ = some (.slice B l.length d) := (XA.out.below B1.out XA.out.lt).cell 2
       clear O_ G_)
    | (at_builtin
       refine GR.app_all (K := sibK) rfl (.tmp 10) (.tmp 13) _ rfl Try.underlying23 hj0 jz0 jz1 jz2 rfl W1.heap.size _ [] rfl O1.out _ _ _ l rfl rfl HL1.out (by show (0 + l.length) * 40 ≤ _; omega) hs1 ?_
       intro v2 w2 ho2 hg2 hat2
       obtain ⟨A2, n2, c2, rfl⟩ := own_slice ho2 (by show l.length * 40 ≤ _; omega)
       have O2 : Hid (GR.Own sibK w2 W1.heap.size (.slice A2 n2 c2) l) := Lib.hid ho2
       have B2 := Lib.hid (GR.bl_of_grown B1.out hg2 (fun b hb => (O1.out.lt b hb).1))
       have hs2 : W1.heap.size ≤ w2.heap.size := B2.out.size
       clear ho2 hg2 hat2)
    | (at_builtin
       refine GR.app_all (K := sibK) rfl (.tmp 15) (.tmp 17) _ rfl Try.underlying23 hj0 jz0 jz1 jz2 rfl W1.heap.size _ l rfl (O2.out.alloc _) _ 1 1 [mkS] rfl rfl (GR.rd_new (K := sibK) mkS rfl (by show 40 ≤ 140737488355328; omega)) (by show (l.length + 1) * 40 ≤ _; omega) (Nat.le_trans hs2 (by simp)) ?_
       intro v3 w3 ho3 hg3 hat3
       have O3 := Lib.hid ho3
       have B3 := Lib.hid (GR.bl_of_grown (show Below W1.heap.size W1 _ from (by repeat (first | exact B2.out | refine bl_drewN ?_ _ | refine bl_drew ?_ | refine bl_alloc ?_ _))) hg3 (fun b hb => (O2.out.lt b hb).1))
       obtain ⟨g, c3, rfl, hc3, hx3⟩ := own_lit ho3 (l.length + 1) (by simp) (by omega)
       have hs3 : W1.heap.size ≤ w3.heap.size := B3.out.size
       clear ho3 hg3 hat3 y2))
  have q1 : l.length ≤ c3 := by omega
  have q3 : (l.length : Int) ≤ (c3 : Int) := by omega
  have XA3 := Lib.hid (XA.out.below B3.out XA.out.lt)
  have XR3 := Lib.hid (XR.out.below B3.out XR.out.lt)
  have HA3 := Lib.hid (HA.out.below (bl_then LW.out B3.out))
  have K0 : Hid (w3.cell? ⟨w.heap.size, 0, none⟩ = some (.string key)) := Lib.hid (XA3.out.cell 0)
  have K1 : Hid (w3.cell? ⟨w.heap.size, 1, none⟩ = some (.slice A a.length c)) := Lib.hid (XA3.out.cell 1)
  have K2 : Hid (w3.cell? ⟨w.heap.size, 2, none⟩ = some (.slice B l.length d)) := Lib.hid (XA3.out.cell 2)
  have HR := Lib.hid (Below.refl w3.heap.size w3)
  have hw3 : w.heap.size + 1 ≤ w3.heap.size := Nat.le_trans hw1 hs3
  refine wp_region_held_drew (S := fun w' => w'.cell? ⟨w.heap.size, 0, none⟩ = some (.string key) ∧ w'.cell? ⟨w.heap.size, 1, none⟩ = some (.slice A a.length c) ∧ w'.cell? ⟨w.heap.size, 2, none⟩ = some (.slice B l.length d)) (by kernel_rfl) ?_ (fun hHeld => ?_)
  · exact ⟨K0.out, K1.out, K2.out⟩
  refine wpAnyH_take (i := 0) (oi := { dst := some 19, op := Op.fieldAddr 27 (Operand.tmp 1) 0, type := 0, pos := "law.go:43", after := #[], guard := none }) (v := ?_) rfl (by kernel_rfl) (by kernel_rfl) (by kernel_rfl) (fun _ _ _ h => h) (Or.inl ⟨by rfl, ?_⟩) (by assumption) ?_
  rotate_left
  · intro w_ hSw
    (try dsimp only at hSw)
    go_simp
    first | done | with_reducible rfl
  try simp only [Act.put, List.setIfInBounds_toArray, List.set_cons_zero, List.set_cons_succ]
  refine wpAnyH_take (i := 1) (oi := { dst := some 20, op := Op.load 9 (Operand.tmp 19), type := 9, pos := "law.go:43", after := #[{ on := 0, ground := Ground.data }], guard := none }) (v := ?_) rfl (by kernel_rfl) (by kernel_rfl) (by kernel_rfl) (fun _ _ _ h => h) (Or.inl ⟨by rfl, ?_⟩) (by assumption) ?_
  rotate_left
  · intro w_ hSw
    (try dsimp only at hSw)
    go_simp
    first | done | with_reducible rfl
  try simp only [Act.put, List.setIfInBounds_toArray, List.set_cons_zero, List.set_cons_succ]
  refine wpAnyH_take (i := 2) (oi := { dst := some 21, op := Op.fieldAddr 27 (Operand.tmp 1) 1, type := 0, pos := "law.go:43", after := #[], guard := none }) (v := ?_) rfl (by kernel_rfl) (by kernel_rfl) (by kernel_rfl) (fun _ _ _ h => h) (Or.inl ⟨by rfl, ?_⟩) (by assumption) ?_
  rotate_left
  · intro w_ hSw
    (try dsimp only at hSw)
    go_simp
    first | done | with_reducible rfl
  try simp only [Act.put, List.setIfInBounds_toArray, List.set_cons_zero, List.set_cons_succ]
  refine wpAnyH_take (i := 3) (oi := { dst := some 22, op := Op.fieldAddr 25 (Operand.tmp 21) 0, type := 0, pos := "law.go:43", after := #[{ on := 2, ground := Ground.data }], guard := none }) (v := ?_) rfl (by kernel_rfl) (by kernel_rfl) (by kernel_rfl) (fun _ _ _ h => h) (Or.inl ⟨by rfl, ?_⟩) (by assumption) ?_
  rotate_left
  · intro w_ hSw
    (try dsimp only at hSw)
    go_simp
    first | done | with_reducible rfl
  try simp only [Act.put, List.setIfInBounds_toArray, List.set_cons_zero, List.set_cons_succ]
  refine wpAnyH_take (i := 4) (oi := { dst := some 23, op := Op.load 22 (Operand.tmp 22), type := 22, pos := "law.go:43", after := #[{ on := 3, ground := Ground.data }], guard := none }) (v := ?_) rfl (by kernel_rfl) (by kernel_rfl) (by kernel_rfl) (fun _ _ _ h => h) (Or.inl ⟨by rfl, ?_⟩) (by assumption) ?_
  rotate_left
  · intro w_ hSw
    (try dsimp only at hSw)
    go_simp
    first | done | with_reducible rfl
  try simp only [Act.put, List.setIfInBounds_toArray, List.set_cons_zero, List.set_cons_succ]
  refine wpAnyH_take (i := 6) (oi := { dst := some 25, op := Op.move (Operand.tmp 3), type := 23, pos := "law.go:43", after := #[], guard := none }) (v := ?_) rfl (by kernel_rfl) (by kernel_rfl) (by kernel_rfl) (fun _ _ _ h => h) (Or.inl ⟨by rfl, ?_⟩) (by assumption) ?_
  rotate_left
  · intro w_ hSw
    (try dsimp only at hSw)
    go_simp
    first | done | with_reducible rfl
  try simp only [Act.put, List.setIfInBounds_toArray, List.set_cons_zero, List.set_cons_succ]
  refine wpAnyH_take (i := 7) (oi := { dst := some 26, op := Op.fieldAddr 27 (Operand.tmp 1) 1, type := 0, pos := "law.go:43", after := #[], guard := none }) (v := ?_) rfl (by kernel_rfl) (by kernel_rfl) (by kernel_rfl) (fun _ _ _ h => h) (Or.inl ⟨by rfl, ?_⟩) (by assumption) ?_
  rotate_left
  · intro w_ hSw
    (try dsimp only at hSw)
    go_simp
    first | done | with_reducible rfl
  try simp only [Act.put, List.setIfInBounds_toArray, List.set_cons_zero, List.set_cons_succ]
  refine wpAnyH_take (i := 8) (oi := { dst := some 27, op := Op.fieldAddr 25 (Operand.tmp 26) 1, type := 0, pos := "law.go:43", after := #[{ on := 7, ground := Ground.data }], guard := none }) (v := ?_) rfl (by kernel_rfl) (by kernel_rfl) (by kernel_rfl) (fun _ _ _ h => h) (Or.inl ⟨by rfl, ?_⟩) (by assumption) ?_
  rotate_left
  · intro w_ hSw
    (try dsimp only at hSw)
    go_simp
    first | done | with_reducible rfl
  try simp only [Act.put, List.setIfInBounds_toArray, List.set_cons_zero, List.set_cons_succ]
  refine wpAnyH_take (i := 9) (oi := { dst := some 28, op := Op.load 23 (Operand.tmp 27), type := 23, pos := "law.go:43", after := #[{ on := 8, ground := Ground.data }], guard := none }) (v := ?_) rfl (by kernel_rfl) (by kernel_rfl) (by kernel_rfl) (fun _ _ _ h => h) (Or.inl ⟨by rfl, ?_⟩) (by assumption) ?_
  rotate_left
  · intro w_ hSw
    (try dsimp only at hSw)
    go_simp
    first | done | with_reducible rfl
  try simp only [Act.put, List.setIfInBounds_toArray, List.set_cons_zero, List.set_cons_succ]
  refine wpAnyH_take (i := 10) (oi := { dst := some 29, op := Op.call { callee := Callee.builtin Builtin.len, args := #[Operand.tmp 28], argTypes := #[23] }, type := 3, pos := "law.go:43", after := #[{ on := 9, ground := Ground.data }], guard := none }) (v := ?_) rfl (by kernel_rfl) (by kernel_rfl) (by kernel_rfl) (fun _ _ _ h => h) (Or.inl ⟨by rfl, ?_⟩) (by assumption) ?_
  rotate_left
  · intro w_ hSw
    (try dsimp only at hSw)
    go_simp
    first | done | with_reducible rfl
  try simp only [Act.put, List.setIfInBounds_toArray, List.set_cons_zero, List.set_cons_succ]
  refine wpAnyH_take (i := 11) (oi := { dst := some 30, op := Op.slice 23 (Operand.tmp 25) none (some (Operand.tmp 29)) none, type := 23, pos := "law.go:43", after := #[{ on := 6, ground := Ground.data }, { on := 10, ground := Ground.data }], guard := none }) (v := ?_) rfl (by kernel_rfl) (by kernel_rfl) (by kernel_rfl) (fun _ _ _ h => h) (Or.inl ⟨by rfl, ?_⟩) (by assumption) ?_
  rotate_left
  · intro w_ hSw
    (try dsimp only at hSw)
    go_simp
    first | done | with_reducible rfl
  try simp only [Act.put, List.setIfInBounds_toArray, List.set_cons_zero, List.set_cons_succ]
  refine wpAnyH_ready (rs := [5]) (by kernel_rfl) (by simp) ?_
  refine AllReadyH.cons (o := { dst := some 24, op := Op.call { callee := Callee.value (Operand.func 15), args := #[Operand.tmp 23], argTypes := #[22] }, type := 22, pos := "law.go:43", after := #[{ on := 4, ground := Ground.data }], guard := none }) rfl (fun K hK => ?_) (AllReadyH.nil)
  go_simp
  go_at_call 15
  refine (dots_any A c a _ (HA3.out.drewN _) sa).mono ?_
  rintro e w5 ⟨g1, cc, rfl, ho5, hb2⟩
  have HO5 := Lib.hid ho5
  clear ho5
  have N_ := Lib.hid (bl_then (w := w3) (by repeat (first | exact HR.out | refine bl_drewN ?_ _ | refine bl_drew ?_ | refine bl_alloc ?_ _)) hb2)
  clear hb2 HR
  have HR := N_
  clear N_
  have XR5 := Lib.hid (XR3.out.below HR.out XR3.out.lt)
  have r0 : w5.cell? ⟨w.heap.size + 1, 0, none⟩ = some (.string ⟨#[]⟩) := XR5.out.cell 0
  have r1 : w5.cell? ⟨w.heap.size + 1, 1, none⟩ = some (.slice none 0 0) := XR5.out.cell 1
  have r2 : w5.cell? ⟨w.heap.size + 1, 2, none⟩ = some (.slice none 0 0) := XR5.out.cell 2
  have f0 := XR5.out.frozen 0
  have f1 := XR5.out.frozen 1
  have f2 := XR5.out.frozen 2
  refine hK.out _ _ ?_ (fun hHeld => ?_)
  · first | exact ⟨(HR.out.cell (World.block_lt_of_cell? w3 _ K0.out)).trans K0.out, (HR.out.cell (World.block_lt_of_cell? w3 _ K1.out)).trans K1.out, (HR.out.cell (World.block_lt_of_cell? w3 _ K2.out)).trans K2.out⟩ | exact ⟨(Below.cell (B := w.heap.size + 1) (p := ⟨w.heap.size, 0, none⟩) (Below.setCell (Below.setCell (Below.setCell (HR.out.mono hw3) (Nat.le_refl _) _) (Nat.le_refl _) _) (Nat.le_refl _) _) (Nat.lt_succ_self _)).trans K0.out, (Below.cell (B := w.heap.size + 1) (p := ⟨w.heap.size, 1, none⟩) (Below.setCell (Below.setCell (Below.setCell (HR.out.mono hw3) (Nat.le_refl _) _) (Nat.le_refl _) _) (Nat.le_refl _) _) (Nat.lt_succ_self _)).trans K1.out, (Below.cell (B := w.heap.size + 1) (p := ⟨w.heap.size, 2, none⟩) (Below.setCell (Below.setCell (Below.setCell (HR.out.mono hw3) (Nat.le_refl _) _) (Nat.le_refl _) _) (Nat.le_refl _) _) (Nat.lt_succ_self _)).trans K2.out⟩
  clear hK K
  try simp only [Act.put, List.setIfInBounds_toArray, List.set_cons_zero, List.set_cons_succ]
  refine wpAnyH_take (i := 12) (oi := { dst := some 31, op := Op.build 25 #[(0, Operand.tmp 24), (1, Operand.tmp 30)], type := 25, pos := "law.go:43", after := #[{ on := 5, ground := Ground.data }, { on := 11, ground := Ground.data }], guard := none }) (v := ?_) rfl (by kernel_rfl) (by kernel_rfl) (by kernel_rfl) (fun _ _ _ h => h) (Or.inl ⟨by rfl, ?_⟩) (by assumption) ?_
  rotate_left
  · intro w_ hSw
    (try dsimp only at hSw)
    go_simp
    first | done | with_reducible rfl
  try simp only [Act.put, List.setIfInBounds_toArray, List.set_cons_zero, List.set_cons_succ]
  refine wpAnyH_take (i := 13) (oi := { dst := some 32, op := Op.build 27 #[(0, Operand.tmp 20), (1, Operand.tmp 31)], type := 27, pos := "law.go:43", after := #[{ on := 1, ground := Ground.data }, { on := 12, ground := Ground.data }], guard := none }) (v := ?_) rfl (by kernel_rfl) (by kernel_rfl) (by kernel_rfl) (fun _ _ _ h => h) (Or.inl ⟨by rfl, ?_⟩) (by assumption) ?_
  rotate_left
  · intro w_ hSw
    (try dsimp only at hSw)
    go_simp
    first | done | with_reducible rfl
  try simp only [Act.put, List.setIfInBounds_toArray, List.set_cons_zero, List.set_cons_succ]
  refine wpAnyH_ready (rs := [14]) (by kernel_rfl) (by simp) ?_
  refine AllReadyH.cons (o := { dst := none, op := Op.store 27 (Operand.tmp 2) (Operand.tmp 32), type := 0, pos := "law.go:43", after := #[{ on := 13, ground := Ground.data }, { on := 5, ground := Ground.chain }, { on := 0, ground := Ground.phase }, { on := 1, ground := Ground.phase }, { on := 2, ground := Ground.phase }, { on := 3, ground := Ground.phase }, { on := 4, ground := Ground.phase }, { on := 5, ground := Ground.phase }, { on := 6, ground := Ground.phase }, { on := 7, ground := Ground.phase }, { on := 8, ground := Ground.phase }, { on := 9, ground := Ground.phase }, { on := 10, ground := Ground.phase }, { on := 11, ground := Ground.phase }, { on := 12, ground := Ground.phase }, { on := 13, ground := Ground.phase }], guard := none }) rfl (fun K hK => ?_) (AllReadyH.nil)
  go_simp
  skip
  refine hK.out _ _ ?_ (fun hHeld => ?_)
  · first | exact ⟨(HR.out.cell (World.block_lt_of_cell? w3 _ K0.out)).trans K0.out, (HR.out.cell (World.block_lt_of_cell? w3 _ K1.out)).trans K1.out, (HR.out.cell (World.block_lt_of_cell? w3 _ K2.out)).trans K2.out⟩ | exact ⟨(Below.cell (B := w.heap.size + 1) (p := ⟨w.heap.size, 0, none⟩) (Below.setCell (Below.setCell (Below.setCell (HR.out.mono hw3) (Nat.le_refl _) _) (Nat.le_refl _) _) (Nat.le_refl _) _) (Nat.lt_succ_self _)).trans K0.out, (Below.cell (B := w.heap.size + 1) (p := ⟨w.heap.size, 1, none⟩) (Below.setCell (Below.setCell (Below.setCell (HR.out.mono hw3) (Nat.le_refl _) _) (Nat.le_refl _) _) (Nat.le_refl _) _) (Nat.lt_succ_self _)).trans K1.out, (Below.cell (B := w.heap.size + 1) (p := ⟨w.heap.size, 2, none⟩) (Below.setCell (Below.setCell (Below.setCell (HR.out.mono hw3) (Nat.le_refl _) _) (Nat.le_refl _) _) (Nat.le_refl _) _) (Nat.lt_succ_self _)).trans K2.out⟩
  clear hK K
  try simp only [Act.put, List.setIfInBounds_toArray, List.set_cons_zero, List.set_cons_succ]
  refine wpAnyH_done (by kernel_rfl) ?_ _
  have OD : Hid (GR.Own dotK w5 w.heap.size (.slice (some ⟨g1, 0, none⟩) (a.length + 1) cc) (a ++ [mkD])) := Lib.hid (HO5.out.base (Nat.le_trans (Nat.le_succ _) hw3))
  have OS : Hid (GR.Own sibK w5 w.heap.size (.slice (some ⟨g, 0, none⟩) (l.length + 1) c3) (l ++ [mkS])) := Lib.hid ((O3.out.below HR.out).base (Nat.le_trans (Nat.le_succ _) hw1))
  have BF := Lib.hid (bl_then LW.out (bl_then B3.out HR.out))
  clear HO5 O3
  go_wp2
  have OF : Hid (OwnS (((w5.setCell ⟨w.heap.size + 1, 0, none⟩ (.string key)).setCell ⟨w.heap.size + 1, 1, none⟩ (.slice (some ⟨g1, 0, none⟩) a.length cc)).setCell ⟨w.heap.size + 1, 2, none⟩ (.slice (some ⟨g, 0, none⟩) l.length c3)) w.heap.size (.slice (some ⟨g1, 0, none⟩) (a.length + 1) cc) (.slice (some ⟨g, 0, none⟩) (l.length + 1) c3) (a ++ [mkD]) (l ++ [mkS])) := Lib.hid ⟨own_farI (own_farI (own_farI OD.out XR5.out 0 _ (by decide)) (XR5.out.set_ 0 _) 1 _ (by decide)) ((XR5.out.set_ 0 _).set_ 1 _) 2 _ (by decide), own_farI (own_farI (own_farI OS.out XR5.out 0 _ (by decide)) (XR5.out.set_ 0 _) 1 _ (by decide)) ((XR5.out.set_ 0 _).set_ 1 _) 2 _ (by decide)⟩
  exact bodyPost_ret (v := .agg #[.string key, .slice (some ⟨g1, 0, none⟩) a.length cc, .slice (some ⟨g, 0, none⟩) l.length c3]) (by simp [results, Try.results10, go_sem, r0, r1, r2, f0, f1, f2]) rfl ⟨g1, cc, g, c3, rfl, OF.out, Below.setCell (Below.setCell (Below.setCell BF.out (Nat.le_succ _) _) (Nat.le_succ _) _) (Nat.le_succ _) _⟩
end Go.Proofs.Ytljfigikkajlnaa
