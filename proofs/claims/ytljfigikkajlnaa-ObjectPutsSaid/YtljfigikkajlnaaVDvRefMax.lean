/- DERIVED. The document's Max and Below of dots. -/
import Derived.Test.YtljfigikkajlnaaVDvMax
import Derived.Test.YtljfigikkajlnaaVm11
import Derived.Test.YtljfigikkajlnaaVm6
namespace Go.Proofs.Ytljfigikkajlnaa
open Go.RowKit
set_option linter.unusedVariables false
set_option linter.unusedSimpArgs false
theorem set_bub (P1 : List Dot) (p y : Dot) (R : List Dot) : ((P1 ++ p :: y :: R).set P1.length y).set (P1.length + 1) p = P1 ++ y :: p :: R := by
  simp
theorem bub_at (P1 : List Dot) (p y : Dot) (R : List Dot) : (P1 ++ p :: y :: R)[P1.length]? = some p ∧ (P1 ++ p :: y :: R)[P1.length + 1]? = some y := by
  simp
set_option maxRecDepth 100000 in
set_option maxHeartbeats 6400000 in
theorem refMax_ok (A B : Option Addr) (c d : Nat) (a b : List Dot) (w : World) (ha : GR.Rd dotK w A a) (hb : GR.Rd dotK w B b) (h1 : vecB a = true) (h2 : vecB b = true) :
    Calls Try.prog 69 #[.slice A a.length c, .slice B b.length d] w fun e w' => ∃ v, e = .returned (.tuple #[v, .int .i64 (maxE a b)]) ∧ GR.Own dotK w' w.heap.size v (maxL a b) ∧ Below w.heap.size w w' := by
  obtain ⟨i0, hi0, hz0, hz1, hz2⟩ := info_parts dot_info
  have na : ∀ d ∈ a, 0 ≤ d.n := fun d hd => by have := (vec_ok h1 d hd).1; omega
  have nb : ∀ d ∈ b, 0 ≤ d.n := fun d hd => by have := (vec_ok h2 d hd).1; omega
  have la := vec_len h1
  have lb := vec_len h2
  have H1 := Lib.hid h1
  have H2 := Lib.hid h2
  have HA := Lib.hid ha
  have HB := Lib.hid hb
  have NA := Lib.hid na
  have NB := Lib.hid nb
  clear ha hb na nb
  go_enter Try.func69, Try.ntmps69
  go_wp2_with fail
  refine (refVec_any _ _ _ _ HA.out NA.out).mono ?_
  rintro e w1 ⟨rfl, ⟨n1, rfl⟩⟩
  rw [h1]
  go_wp2_with fail
  refine (refVec_any _ _ _ _ (HB.out.drewN _) NB.out).mono ?_
  rintro e w2 ⟨rfl, ⟨n2, rfl⟩⟩
  rw [h2]
  clear h1 h2
  go_wp2_with (at_builtin; refine GR.app_twin (K := dotK) rfl (.tmp 19) (.tmp 20) _ rfl Try.underlying22 hi0 hz0 hz1 hz2 rfl rfl A a.length c a rfl rfl (HA.out.drewN _) (by show a.length * 16 ≤ _; omega) ?_; intro v1 w1 ho hbl; have HO1 := Lib.hid ho; have HB1 := Lib.hid (bl_then (w := w) (by repeat (first | exact Below.refl _ _ | refine bl_drewN ?_ _ | refine bl_drew ?_ | refine bl_alloc ?_ _)) hbl); clear ho hbl)
  have HN := Lib.hid (show a = a ++ rest10 a (b.take 0) by simp [rest10])
  go_loopw [6, 7] (fun v0 i w' => ∃ (v : Value) (k : Nat), v = v0 ∧ k ≤ b.length ∧ i = .int .i64 k ∧ Hid (GR.Own dotK w' w.heap.size v (a ++ rest10 a (b.take k))) ∧ Hid (Below w.heap.size w w')) (fun _ i _ => b.length - (intOf i).toNat)
  case atStart => exact ⟨_, 0, rfl, by omega, rfl, Lib.hid (by rw [← HN.out]; exact HO1.out.base (by simp)), HB1⟩
  case round =>
    clear HO1 HB1 HN
    obtain ⟨v, k, rfl, hk, rfl, ho, hbl⟩ := hrel
    have HA1 := Lib.hid (HA.out.below hbl.out)
    have HBB := Lib.hid (HB.out.below hbl.out)
    have hrl := rest_len a (b.take k)
    have hrl2 : (b.take k).length ≤ 64 := by simp; omega
    have HLEN := Lib.hid (show ((a ++ rest10 a (b.take k)).length + 1) * 16 ≤ 140737488355328 by rw [List.length_append]; omega)
    clear hrl hrl2
    by_cases hlt : k < b.length
    · have i1 : (0 : Int) ≤ (k : Int) := by omega
      have i2 : (k : Int) < (b.length : Int) := by omega
      obtain ⟨bd, rfl, hb0, c0, c1⟩ := dot_at HBB.out k hlt
      have HC := Lib.hid (cnt_vec H1.out b[k].a)
      have HS := Lib.hid (rest_succ a b k hlt)
      by_cases hz : look a b[k].a = 0
      · have q0 : (cnt a b[k].a == 0) = true := by rw [HC.out]; simpa using hz
        have HS2 := Lib.hid (show a ++ rest10 a (b.take (k + 1)) = (a ++ rest10 a (b.take k)) ++ [b[k]] by rw [HS.out, if_pos hz]; simp)
        clear hz
        go_wp2_with (first
          | (go_at_call 79; refine (refCount_any _ _ a _ _ HA1.out NA.out).mono ?_; rintro e w2 ⟨rfl, ⟨n3, rfl⟩⟩)
          | (at_builtin; refine GR.app_one (K := dotK) rfl (.tmp 36) (.tmp 41) _ rfl Try.underlying22 hi0 hz0 hz1 hz2 rfl w.heap.size _ _ b[k] rfl (ho.out.drewN _) rfl HLEN.out (by simpa using hbl.out.size) ?_; intro v3 w3 ho3 hg3 hat3; have HO3 := Lib.hid ho3; have HB3 := Lib.hid (GR.bl_of_grown (bl_drewN hbl.out _) hg3 (fun b hb => (ho.out.lt b hb).1)); clear ho3 hg3 hat3))
        go_roundw
        case rel => exact ⟨_, k + 1, rfl, by omega, by go_num, Lib.hid (by rw [HS2.out]; exact HO3.out), HB3⟩
        case measure => simp [intOf]; omega
      · have q0 : (cnt a b[k].a == 0) = false := by rw [HC.out]; simpa using hz
        have HS2 := Lib.hid (show a ++ rest10 a (b.take (k + 1)) = a ++ rest10 a (b.take k) by rw [HS.out, if_neg hz])
        clear hz
        go_wp2_with (first
          | (go_at_call 79; refine (refCount_any _ _ a _ _ HA1.out NA.out).mono ?_; rintro e w2 ⟨rfl, ⟨n3, rfl⟩⟩))
        go_roundw
        case rel => exact ⟨_, k + 1, rfl, by omega, by go_num, Lib.hid (by rw [HS2.out]; exact ho.out.drewN _), Lib.hid (bl_drewN hbl.out _)⟩
        case measure => simp [intOf]; omega
    · obtain rfl : k = b.length := by omega
      have HALL := Lib.hid (show a ++ rest10 a (b.take b.length) = all10 a b by rw [List.take_length]; rfl)
      have ho2 : GR.Own dotK wr w.heap.size v (all10 a b) := by rw [← HALL.out]; exact ho.out
      have HO2 := Lib.hid ho2
      have HAL := Lib.hid (show (all10 a b).length ≤ 128 by
        have := rest_len a b
        unfold all10
        rw [List.length_append]; omega)
      clear HALL HLEN ho hlt hk
      rcases ho2.2 with ⟨hv, h0⟩ | ⟨g, cap, cur, hv, hgB, _⟩
      · have HE := Lib.hid (show maxE a b = 0 ∧ maxL a b = [] by
          have h := List.eq_nil_of_length_eq_zero h0
          have hv := ins_end H1.out H2.out (P := []) (by rw [h]; exact ins_zero a b)
          simp [maxL, maxE, H1.out, H2.out, ← hv])
        clear ho2 HO2 h0
        subst hv
        go_wp2
        go_loopw [8] (fun i w' => i = .int .i64 0 ∧ wr = w') (fun _ _ => 0)
        case atStart => exact ⟨rfl, rfl⟩
        case round =>
          obtain ⟨rfl, rfl⟩ := hrel
          go_wp2
          go_ret2
          exact ⟨_, ret_vi HE.out.1.symm, by rw [HE.out.2]; exact GR.Own.nil _ _ _, hbl.out⟩
      · obtain ⟨wl, hwl⟩ : ∃ wl : World, wl = wr := ⟨_, rfl⟩
        have BWL : Hid (Below w.heap.size w wr) := hbl
        clear ho2
        subst hv
        generalize hnl : (all10 a b).length = N at *
        have HNL := Lib.hid hnl
        have hN : N ≤ 128 := HAL.out
        clear hnl
        subst hwl
        go_wp2
        go_loopw [8] (fun i w' => ∃ (k : Nat) (P : List Dot), k ≤ N ∧ i = .int .i64 k ∧ Hid (InsOk a b k P) ∧ Hid (GR.Own dotK w' w.heap.size (.slice (some ⟨g, 0, none⟩) N cap) (P ++ (all10 a b).drop k)) ∧ Hid (Below w.heap.size w w')) (fun i _ => N - (intOf i).toNat)
        case atStart => exact ⟨0, [], by omega, rfl, Lib.hid (ins_zero a b), HO2, BWL⟩
        case round =>
          clear HO2 BWL hbl
          obtain ⟨k, P, hk, rfl, hin, ho, hbl⟩ := hrel
          by_cases hlt : k < N
          · have hlt2 : k < (all10 a b).length := by rw [HNL.out]; exact hlt
            have hPk : P.length = k := hin.out.1
            have hz : (P ++ (all10 a b).drop k)[k]? = some (all10 a b)[k] := by
              rw [List.getElem?_append_right (by omega), List.getElem?_drop, show k + (k - P.length) = k by omega, List.getElem?_eq_getElem hlt2]
            have HSET : Hid (∀ y : Dot, (P ++ (all10 a b).drop k).set k y = P ++ y :: (all10 a b).drop (k + 1)) := Lib.hid (fun y => by
              rw [List.set_append_right _ _ (by omega), List.drop_eq_getElem_cons hlt2, hPk, Nat.sub_self]; rfl)
            obtain ⟨y, hy⟩ : ∃ y : Dot, y = upd10 a b (all10 a b)[k] := ⟨_, rfl⟩
            have HY := Lib.hid hy
            have HYA := Lib.hid (show y.a = (all10 a b)[k].a by rw [hy]; rfl)
            have HM := Lib.hid (show (⟨(all10 a b)[k].a, if cnt a (all10 a b)[k].a < cnt b (all10 a b)[k].a then cnt b (all10 a b)[k].a else cnt a (all10 a b)[k].a⟩ : Dot) = y by
              rw [hy, cnt_vec H1.out, cnt_vec H2.out]
              unfold upd10
              congr 1
              split <;> omega)
            clear hy
            obtain ⟨c0, c1, f0, f1⟩ := own_dot ho.out hz
            have KX0 := Lib.hid c0
            have HZ := Lib.hid hz
            have HPK := Lib.hid hPk
            clear hz hPk
            have i1 : (0 : Int) ≤ (k : Int) := by omega
            have i2 : (k : Int) < (N : Int) := by omega
            have HA1 := Lib.hid (HA.out.below hbl.out)
            have HBB := Lib.hid (HB.out.below hbl.out)
            go_wp2
            refine wp_region_held_drew (S := fun w' => w'.cell? ⟨g, k * 2, none⟩ = some (.int .u32 (all10 a b)[k].a)) (by kernel_rfl) ?_ (fun hHeld => ?_)
            · exact KX0.out
            refine wpAnyH_take (i := 0) (oi := { dst := some 49, op := Op.move (Operand.tmp 6), type := 22, pos := "ref.go:50", after := #[], guard := none }) (v := ?_) rfl (by kernel_rfl) (by kernel_rfl) (by kernel_rfl) (fun _ _ _ h => h) (Or.inl ⟨by rfl, ?_⟩) (by assumption) ?_
            rotate_left
            · intro w_ hSw
              (try dsimp only at hSw)
              go_simp
              first | done | with_reducible rfl
            try simp only [Act.put, List.setIfInBounds_toArray, List.set_cons_zero, List.set_cons_succ]
            refine wpAnyH_take (i := 1) (oi := { dst := some 50, op := Op.move (Operand.tmp 8), type := 3, pos := "ref.go:50", after := #[], guard := none }) (v := ?_) rfl (by kernel_rfl) (by kernel_rfl) (by kernel_rfl) (fun _ _ _ h => h) (Or.inl ⟨by rfl, ?_⟩) (by assumption) ?_
            rotate_left
            · intro w_ hSw
              (try dsimp only at hSw)
              go_simp
              first | done | with_reducible rfl
            try simp only [Act.put, List.setIfInBounds_toArray, List.set_cons_zero, List.set_cons_succ]
            refine wpAnyH_take (i := 2) (oi := { dst := some 51, op := Op.move (Operand.tmp 0), type := 22, pos := "ref.go:50", after := #[], guard := none }) (v := ?_) rfl (by kernel_rfl) (by kernel_rfl) (by kernel_rfl) (fun _ _ _ h => h) (Or.inl ⟨by rfl, ?_⟩) (by assumption) ?_
            rotate_left
            · intro w_ hSw
              (try dsimp only at hSw)
              go_simp
              first | done | with_reducible rfl
            try simp only [Act.put, List.setIfInBounds_toArray, List.set_cons_zero, List.set_cons_succ]
            refine wpAnyH_take (i := 3) (oi := { dst := some 52, op := Op.move (Operand.tmp 6), type := 22, pos := "ref.go:50", after := #[], guard := none }) (v := ?_) rfl (by kernel_rfl) (by kernel_rfl) (by kernel_rfl) (fun _ _ _ h => h) (Or.inl ⟨by rfl, ?_⟩) (by assumption) ?_
            rotate_left
            · intro w_ hSw
              (try dsimp only at hSw)
              go_simp
              first | done | with_reducible rfl
            try simp only [Act.put, List.setIfInBounds_toArray, List.set_cons_zero, List.set_cons_succ]
            refine wpAnyH_take (i := 4) (oi := { dst := some 53, op := Op.move (Operand.tmp 8), type := 3, pos := "ref.go:50", after := #[], guard := none }) (v := ?_) rfl (by kernel_rfl) (by kernel_rfl) (by kernel_rfl) (fun _ _ _ h => h) (Or.inl ⟨by rfl, ?_⟩) (by assumption) ?_
            rotate_left
            · intro w_ hSw
              (try dsimp only at hSw)
              go_simp
              first | done | with_reducible rfl
            try simp only [Act.put, List.setIfInBounds_toArray, List.set_cons_zero, List.set_cons_succ]
            refine wpAnyH_take (i := 5) (oi := { dst := some 54, op := Op.indexAddr 22 (Operand.tmp 52) (Operand.tmp 53), type := 0, pos := "ref.go:50", after := #[{ on := 3, ground := Ground.data }, { on := 4, ground := Ground.data }], guard := none }) (v := ?_) rfl (by kernel_rfl) (by kernel_rfl) (by kernel_rfl) (fun _ _ _ h => h) (Or.inl ⟨by rfl, ?_⟩) (by assumption) ?_
            rotate_left
            · intro w_ hSw
              (try dsimp only at hSw)
              go_simp
              first | done | with_reducible rfl
            try simp only [Act.put, List.setIfInBounds_toArray, List.set_cons_zero, List.set_cons_succ]
            refine wpAnyH_take (i := 6) (oi := { dst := some 55, op := Op.fieldAddr 41 (Operand.tmp 54) 0, type := 0, pos := "ref.go:50", after := #[{ on := 5, ground := Ground.data }], guard := none }) (v := ?_) rfl (by kernel_rfl) (by kernel_rfl) (by kernel_rfl) (fun _ _ _ h => h) (Or.inl ⟨by rfl, ?_⟩) (by assumption) ?_
            rotate_left
            · intro w_ hSw
              (try dsimp only at hSw)
              go_simp
              first | done | with_reducible rfl
            try simp only [Act.put, List.setIfInBounds_toArray, List.set_cons_zero, List.set_cons_succ]
            refine wpAnyH_take (i := 7) (oi := { dst := some 56, op := Op.load 29 (Operand.tmp 55), type := 29, pos := "ref.go:50", after := #[{ on := 6, ground := Ground.data }], guard := none }) (v := ?_) rfl (by kernel_rfl) (by kernel_rfl) (by kernel_rfl) (fun _ _ _ h => h) (Or.inl ⟨by rfl, ?_⟩) (by assumption) ?_
            rotate_left
            · intro w_ hSw
              (try dsimp only at hSw)
              go_simp
              first | done | with_reducible rfl
            try simp only [Act.put, List.setIfInBounds_toArray, List.set_cons_zero, List.set_cons_succ]
            refine wpAnyH_take (i := 9) (oi := { dst := some 58, op := Op.move (Operand.tmp 1), type := 22, pos := "ref.go:50", after := #[], guard := none }) (v := ?_) rfl (by kernel_rfl) (by kernel_rfl) (by kernel_rfl) (fun _ _ _ h => h) (Or.inl ⟨by rfl, ?_⟩) (by assumption) ?_
            rotate_left
            · intro w_ hSw
              (try dsimp only at hSw)
              go_simp
              first | done | with_reducible rfl
            try simp only [Act.put, List.setIfInBounds_toArray, List.set_cons_zero, List.set_cons_succ]
            refine wpAnyH_take (i := 10) (oi := { dst := some 59, op := Op.move (Operand.tmp 6), type := 22, pos := "ref.go:50", after := #[], guard := none }) (v := ?_) rfl (by kernel_rfl) (by kernel_rfl) (by kernel_rfl) (fun _ _ _ h => h) (Or.inl ⟨by rfl, ?_⟩) (by assumption) ?_
            rotate_left
            · intro w_ hSw
              (try dsimp only at hSw)
              go_simp
              first | done | with_reducible rfl
            try simp only [Act.put, List.setIfInBounds_toArray, List.set_cons_zero, List.set_cons_succ]
            refine wpAnyH_take (i := 11) (oi := { dst := some 60, op := Op.move (Operand.tmp 8), type := 3, pos := "ref.go:50", after := #[], guard := none }) (v := ?_) rfl (by kernel_rfl) (by kernel_rfl) (by kernel_rfl) (fun _ _ _ h => h) (Or.inl ⟨by rfl, ?_⟩) (by assumption) ?_
            rotate_left
            · intro w_ hSw
              (try dsimp only at hSw)
              go_simp
              first | done | with_reducible rfl
            try simp only [Act.put, List.setIfInBounds_toArray, List.set_cons_zero, List.set_cons_succ]
            refine wpAnyH_take (i := 12) (oi := { dst := some 61, op := Op.indexAddr 22 (Operand.tmp 59) (Operand.tmp 60), type := 0, pos := "ref.go:50", after := #[{ on := 10, ground := Ground.data }, { on := 11, ground := Ground.data }], guard := none }) (v := ?_) rfl (by kernel_rfl) (by kernel_rfl) (by kernel_rfl) (fun _ _ _ h => h) (Or.inl ⟨by rfl, ?_⟩) (by assumption) ?_
            rotate_left
            · intro w_ hSw
              (try dsimp only at hSw)
              go_simp
              first | done | with_reducible rfl
            try simp only [Act.put, List.setIfInBounds_toArray, List.set_cons_zero, List.set_cons_succ]
            refine wpAnyH_take (i := 13) (oi := { dst := some 62, op := Op.fieldAddr 41 (Operand.tmp 61) 0, type := 0, pos := "ref.go:50", after := #[{ on := 12, ground := Ground.data }], guard := none }) (v := ?_) rfl (by kernel_rfl) (by kernel_rfl) (by kernel_rfl) (fun _ _ _ h => h) (Or.inl ⟨by rfl, ?_⟩) (by assumption) ?_
            rotate_left
            · intro w_ hSw
              (try dsimp only at hSw)
              go_simp
              first | done | with_reducible rfl
            try simp only [Act.put, List.setIfInBounds_toArray, List.set_cons_zero, List.set_cons_succ]
            refine wpAnyH_take (i := 14) (oi := { dst := some 63, op := Op.load 29 (Operand.tmp 62), type := 29, pos := "ref.go:50", after := #[{ on := 13, ground := Ground.data }], guard := none }) (v := ?_) rfl (by kernel_rfl) (by kernel_rfl) (by kernel_rfl) (fun _ _ _ h => h) (Or.inl ⟨by rfl, ?_⟩) (by assumption) ?_
            rotate_left
            · intro w_ hSw
              (try dsimp only at hSw)
              go_simp
              first | done | with_reducible rfl
            try simp only [Act.put, List.setIfInBounds_toArray, List.set_cons_zero, List.set_cons_succ]
            refine wpAnyH_ready (rs := [8]) (by kernel_rfl) (by simp) ?_
            refine AllReadyH.cons (o := { dst := some 57, op := Op.call { callee := Callee.value (Operand.func 79), args := #[Operand.tmp 51, Operand.tmp 56], argTypes := #[22, 29] }, type := 39, pos := "ref.go:50", after := #[{ on := 2, ground := Ground.data }, { on := 7, ground := Ground.data }], guard := none }) rfl (fun K hK => ?_) (AllReadyH.nil)
            go_simp
            go_at_call 79
            refine (refCount_any _ _ a _ _ (HA1.out.drewN _) NA.out).mono ?_
            rintro e w2 ⟨rfl, ⟨n3, rfl⟩⟩
            refine hK.out _ _ ?_ (fun hHeld => ?_)
            · first | go_keep | exact KX0.out | exact (World.cell?_setCell_other _ _ _ _ (by simp)).trans KX0.out
            clear hK K
            try simp only [Act.put, List.setIfInBounds_toArray, List.set_cons_zero, List.set_cons_succ]
            refine wpAnyH_ready (rs := [15]) (by kernel_rfl) (by simp) ?_
            refine AllReadyH.cons (o := { dst := some 64, op := Op.call { callee := Callee.value (Operand.func 79), args := #[Operand.tmp 58, Operand.tmp 63], argTypes := #[22, 29] }, type := 39, pos := "ref.go:50", after := #[{ on := 9, ground := Ground.data }, { on := 14, ground := Ground.data }, { on := 8, ground := Ground.chain }], guard := none }) rfl (fun K hK => ?_) (AllReadyH.nil)
            go_simp
            go_at_call 79
            refine (refCount_any _ _ b _ _ (HBB.out.drewN _) NB.out).mono ?_
            rintro e w2 ⟨rfl, ⟨n4, rfl⟩⟩
            refine hK.out _ _ ?_ (fun hHeld => ?_)
            · first | go_keep | exact KX0.out | exact (World.cell?_setCell_other _ _ _ _ (by simp)).trans KX0.out
            clear hK K
            try simp only [Act.put, List.setIfInBounds_toArray, List.set_cons_zero, List.set_cons_succ]
            refine wpAnyH_ready (rs := [16]) (by kernel_rfl) (by simp) ?_
            refine AllReadyH.cons (o := { dst := some 65, op := Op.call { callee := Callee.builtin Builtin.max, args := #[Operand.tmp 57, Operand.tmp 64], argTypes := #[39, 39] }, type := 39, pos := "ref.go:50", after := #[{ on := 8, ground := Ground.data }, { on := 15, ground := Ground.data }], guard := none }) rfl (fun K hK => ?_) (AllReadyH.nil)
            go_simp
            skip
            refine hK.out _ _ ?_ (fun hHeld => ?_)
            · first | go_keep | exact KX0.out | exact (World.cell?_setCell_other _ _ _ _ (by simp)).trans KX0.out
            clear hK K
            try simp only [Act.put, List.setIfInBounds_toArray, List.set_cons_zero, List.set_cons_succ]
            refine wpAnyH_take (i := 17) (oi := { dst := some 66, op := Op.indexAddr 22 (Operand.tmp 49) (Operand.tmp 50), type := 0, pos := "ref.go:50", after := #[{ on := 0, ground := Ground.data }, { on := 1, ground := Ground.data }, { on := 0, ground := Ground.phase }, { on := 1, ground := Ground.phase }, { on := 2, ground := Ground.phase }, { on := 3, ground := Ground.phase }, { on := 4, ground := Ground.phase }, { on := 5, ground := Ground.phase }, { on := 6, ground := Ground.phase }, { on := 7, ground := Ground.phase }, { on := 8, ground := Ground.phase }, { on := 9, ground := Ground.phase }, { on := 10, ground := Ground.phase }, { on := 11, ground := Ground.phase }, { on := 12, ground := Ground.phase }, { on := 13, ground := Ground.phase }, { on := 14, ground := Ground.phase }, { on := 15, ground := Ground.phase }, { on := 16, ground := Ground.phase }], guard := none }) (v := ?_) rfl (by kernel_rfl) (by kernel_rfl) (by kernel_rfl) (fun _ _ _ h => h) (Or.inl ⟨by rfl, ?_⟩) (by assumption) ?_
            rotate_left
            · intro w_ hSw
              (try dsimp only at hSw)
              go_simp
              first | done | with_reducible rfl
            try simp only [Act.put, List.setIfInBounds_toArray, List.set_cons_zero, List.set_cons_succ]
            refine wpAnyH_take (i := 18) (oi := { dst := some 67, op := Op.fieldAddr 41 (Operand.tmp 66) 1, type := 0, pos := "ref.go:50", after := #[{ on := 17, ground := Ground.data }, { on := 0, ground := Ground.phase }, { on := 1, ground := Ground.phase }, { on := 2, ground := Ground.phase }, { on := 3, ground := Ground.phase }, { on := 4, ground := Ground.phase }, { on := 5, ground := Ground.phase }, { on := 6, ground := Ground.phase }, { on := 7, ground := Ground.phase }, { on := 8, ground := Ground.phase }, { on := 9, ground := Ground.phase }, { on := 10, ground := Ground.phase }, { on := 11, ground := Ground.phase }, { on := 12, ground := Ground.phase }, { on := 13, ground := Ground.phase }, { on := 14, ground := Ground.phase }, { on := 15, ground := Ground.phase }, { on := 16, ground := Ground.phase }], guard := none }) (v := ?_) rfl (by kernel_rfl) (by kernel_rfl) (by kernel_rfl) (fun _ _ _ h => h) (Or.inl ⟨by rfl, ?_⟩) (by assumption) ?_
            rotate_left
            · intro w_ hSw
              (try dsimp only at hSw)
              go_simp
              first | done | with_reducible rfl
            try simp only [Act.put, List.setIfInBounds_toArray, List.set_cons_zero, List.set_cons_succ]
            refine wpAnyH_ready (rs := [19]) (by kernel_rfl) (by simp) ?_
            refine AllReadyH.cons (o := { dst := none, op := Op.store 39 (Operand.tmp 67) (Operand.tmp 65), type := 0, pos := "ref.go:50", after := #[{ on := 18, ground := Ground.data }, { on := 16, ground := Ground.data }, { on := 15, ground := Ground.chain }, { on := 0, ground := Ground.phase }, { on := 1, ground := Ground.phase }, { on := 2, ground := Ground.phase }, { on := 3, ground := Ground.phase }, { on := 4, ground := Ground.phase }, { on := 5, ground := Ground.phase }, { on := 6, ground := Ground.phase }, { on := 7, ground := Ground.phase }, { on := 8, ground := Ground.phase }, { on := 9, ground := Ground.phase }, { on := 10, ground := Ground.phase }, { on := 11, ground := Ground.phase }, { on := 12, ground := Ground.phase }, { on := 13, ground := Ground.phase }, { on := 14, ground := Ground.phase }, { on := 15, ground := Ground.phase }, { on := 16, ground := Ground.phase }], guard := none }) rfl (fun K hK => ?_) (AllReadyH.nil)
            go_simp
            skip
            refine hK.out _ _ ?_ (fun hHeld => ?_)
            · first | go_keep | exact KX0.out | exact (World.cell?_setCell_other _ _ _ _ (by simp)).trans KX0.out
            clear hK K
            try simp only [Act.put, List.setIfInBounds_toArray, List.set_cons_zero, List.set_cons_succ]
            refine wpAnyH_done (by kernel_rfl) ?_ _
            have ho2 := own_setn (ho.out.drewN (1 + n3 + n4)) k _ HZ.out (if cnt a (all10 a b)[k].a < cnt b (all10 a b)[k].a then cnt b (all10 a b)[k].a else cnt a (all10 a b)[k].a)
            rw [HSET.out, HM.out] at ho2
            have HO2 := Lib.hid ho2
            have HB2 := Lib.hid (Below.setCell (p := ⟨g, k * 2 + 1, none⟩) (bl_drewN hbl.out (1 + n3 + n4)) hgB (.int .u64 (if cnt a (all10 a b)[k].a < cnt b (all10 a b)[k].a then cnt b (all10 a b)[k].a else cnt a (all10 a b)[k].a)))
            clear ho2 HM HSET ho hbl hHeld
            generalize (if cnt a (all10 a b)[k].a < cnt b (all10 a b)[k].a then cnt b (all10 a b)[k].a else cnt a (all10 a b)[k].a) = mx at HO2 HB2 ⊢
            go_wp2
            go_loopw [9] (fun j w' => ∃ P1 P2 : List Dot, j = .int .i64 P1.length ∧ P1.length ≤ k ∧ Hid (P1 ++ P2 = P) ∧ Hid (GR.Own dotK w' w.heap.size (.slice (some ⟨g, 0, none⟩) N cap) (P1 ++ y :: (P2 ++ (all10 a b).drop (k + 1)))) ∧ Hid (∀ d ∈ P2, y.a < d.a) ∧ Hid (Below w.heap.size w w')) (fun j _ => (intOf j).toNat)
            case atStart => exact ⟨P, [], by rw [HPK.out], by rw [HPK.out]; omega, Lib.hid (by simp), HO2, Lib.hid (by simp), HB2⟩
            case round =>
              clear HO2 HB2
              obtain ⟨P1, P2, rfl, hP1, hPP, ho, hgt, hbl⟩ := hrel
              rcases List.eq_nil_or_concat P1 with rfl | ⟨Q, p, rfl⟩
              · have HIN := Lib.hid (show InsOk a b (k + 1) (y :: P2) by
                  have h := ins_next H1.out H2.out (P1 := []) (P2 := P2) hlt2 (by rw [hPP.out]; exact hin.out) (fun d hd => by have := hgt.out d hd; rw [HYA.out] at this; exact this) (.inl rfl)
                  rw [← HY.out] at h; exact h)
                go_wp2
                go_quiet (fail)
                go_wp2
                go_roundw
                case rel => exact ⟨k + 1, y :: P2, by omega, by go_num, HIN, Lib.hid (ho.out.drewN _), Lib.hid (bl_drewN hbl.out _)⟩
                case measure => simp [intOf]; omega
              · have hcc : Q.concat p = Q ++ [p] := by simp
                rw [hcc] at hP1 hPP ho ⊢
                have hql : (Q ++ [p]).length = Q.length + 1 := by simp
                have hP1' : Q.length + 1 ≤ k := by rw [← hql]; exact hP1
                have ho3 : GR.Own dotK wr w.heap.size (.slice (some ⟨g, 0, none⟩) N cap) (Q ++ p :: y :: (P2 ++ (all10 a b).drop (k + 1))) := by have := ho.out; rwa [List.append_assoc] at this
                obtain ⟨d0, d1, e0, e1⟩ := own_dot ho3 (bub_at Q p y _).1
                obtain ⟨d2, d3, e2, e3⟩ := own_dot ho3 (bub_at Q p y _).2
                have HO3 := Lib.hid ho3
                have hgt9 : g < wr.heap.size := (ho3.lt g rfl).2
                have j1 : (0 : Int) ≤ (Q.length : Int) := by omega
                have j2 : (Q.length : Int) < (N : Int) := by omega
                have j3 : (Q.length : Int) + 1 < (N : Int) := by omega
                have j4 : (0 : Int) ≤ (Q.length : Int) + 1 := by omega
                clear hcc ho ho3 hP1
                by_cases hlp : y.a < p.a
                · have t1 : decide (y.a < p.a) = true := by simpa using hlp
                  have HGT := Lib.hid (show ∀ d ∈ p :: P2, y.a < d.a by
                    intro d hd
                    rcases List.mem_cons.1 hd with rfl | hd
                    · exact hlp
                    · exact hgt.out d hd)
                  clear hlp
                  go_wp2
                  go_quiet (fail)
                  obtain ⟨W2, hW2⟩ : ∃ W2 : World, W2 = wr.drewN nq := ⟨_, rfl⟩
                  rw [← hW2]
                  have HO4 : Hid (GR.Own dotK W2 w.heap.size (.slice (some ⟨g, 0, none⟩) N cap) (Q ++ p :: y :: (P2 ++ (all10 a b).drop (k + 1)))) := Lib.hid (by rw [hW2]; exact HO3.out.drewN nq)
                  have HB4 : Hid (Below w.heap.size w W2) := Lib.hid (by rw [hW2]; exact bl_drewN hbl.out nq)
                  clear hW2 d0 d1 d2 d3 e0 e1 e2 e3 hgt9
                  obtain ⟨d0, d1, e0, e1⟩ := own_dot HO4.out (bub_at Q p y _).1
                  obtain ⟨d2, d3, e2, e3⟩ := own_dot HO4.out (bub_at Q p y _).2
                  have hgt9 : g < W2.heap.size := (HO4.out.lt g rfl).2
                  have hgt8 : g ≠ W2.heap.size := Nat.ne_of_lt hgt9
                  go_wp2
                  go_roundw
                  case rel => exact ⟨Q, p :: P2, rfl, by omega, Lib.hid (by rw [← hPP.out]; simp), Lib.hid (by
                    have h := (own_setd (own_setd HO4.out Q.length (by simp) y) (Q.length + 1) (by simp) p).alloc (.cells #[.int .u32 p.a, .int .u64 p.n] 41)
                    rw [set_bub] at h; exact h), HGT, Lib.hid (by repeat (first | exact HB4.out | refine Below.setCell ?_ hgB _ | refine bl_alloc ?_ _))⟩
                  case measure => simp [intOf]; try omega
                · have t1 : decide (y.a < p.a) = false := by simp; omega
                  have HIN := Lib.hid (show InsOk a b (k + 1) ((Q ++ [p]) ++ y :: P2) by
                    have h := ins_next H1.out H2.out (P1 := Q ++ [p]) (P2 := P2) hlt2 (by rw [hPP.out]; exact hin.out) (fun d hd => by have := hgt.out d hd; rw [HYA.out] at this; exact this) (.inr ⟨Q, p, rfl, by have := HYA.out; omega⟩)
                    rw [← HY.out] at h; exact h)
                  clear hlp
                  go_wp2
                  go_quiet (fail)
                  go_wp2
                  go_roundw
                  case rel => exact ⟨k + 1, (Q ++ [p]) ++ y :: P2, by omega, by go_num, HIN, Lib.hid (by have := HO3.out.drewN nq; simpa using this), Lib.hid (bl_drewN hbl.out _)⟩
                  case measure => simp [intOf]; omega
          · obtain rfl : k = N := by omega
            have HPV := Lib.hid (show P = vmax a b by
              have h := hin.out
              rw [← HNL.out] at h
              exact ins_end H1.out H2.out h)
            have HOV := Lib.hid (show GR.Own dotK wr w.heap.size (.slice (some ⟨g, 0, none⟩) k cap) (vmax a b) by
              have h := ho.out
              rw [HPV.out, List.drop_eq_nil_of_le (by rw [HNL.out]; omega), List.append_nil] at h
              exact h)
            have hkv : k = (vmax a b).length := own_len HOV.out
            have HE := Lib.hid (show (maxE a b = if (vmax a b).length ≤ 64 then 0 else 82) by simp [maxE, H1.out, H2.out])
            have HKV := Lib.hid hkv
            clear hkv ho hin
            by_cases h64 : k ≤ 64
            · have g0 : decide (64 < (k : Int)) = false := by simp; omega
              have g1 : decide (64 < k) = false := by simp; omega
              have HV := Lib.hid (show maxE a b = 0 ∧ maxL a b = vmax a b by rw [maxL, HE.out, ← HKV.out, if_pos h64]; exact ⟨rfl, rfl⟩)
              clear h64
              go_wp2
              go_ret2
              exact ⟨_, ret_vi HV.out.1.symm, by rw [HV.out.2]; exact HOV.out, hbl.out⟩
            · have g0 : decide (64 < (k : Int)) = true := by simp; omega
              have g1 : decide (64 < k) = true := by simp; omega
              have HV := Lib.hid (show maxE a b = 82 ∧ maxL a b = [] by rw [maxL, HE.out, ← HKV.out, if_neg h64]; exact ⟨rfl, rfl⟩)
              clear h64
              go_wp2
              go_ret2
              exact ⟨_, ret_vi HV.out.1.symm, by rw [HV.out.2]; exact GR.Own.nil _ _ _, hbl.out⟩
end Go.Proofs.Ytljfigikkajlnaa
