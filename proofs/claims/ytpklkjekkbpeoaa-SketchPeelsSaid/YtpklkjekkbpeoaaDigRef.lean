/- DERIVED. The digest of a text: the document's Of. -/
import Derived.Test.YtpklkjekkbpeoaaDigBuf
import Derived.Test.YtpklkjekkbpeoaaDigFill
import Derived.Test.YtpklkjekkbpeoaaDigMade
namespace Go.Proofs.Ytpklkjekkbpeoaa
open Go.RowKit
set_option linter.unusedVariables false
set_option linter.unusedSimpArgs false
attribute [local go_sem high] w_add w_xor w_and w_or w_andNot w_not w_shl w_shr u32_byte u8_word
attribute [local irreducible] arrW arrB kc wpList Code.wp

theorem z32 : (Try.prog.info? 64).map (fun i => (i.zero, i.size)) = some (some (.agg (arrB 32 fun _ => 0)), 32) := by
  unfold arrB
  kernel_rfl
theorem s32 : (Try.prog.info? 64).map (·.size) = some 32 := by kernel_rfl
section
variable {P : Program} {ops : Array Oper} {o : Oper} {a : Act} {w : World} {K : Act → World → Prop} {Q : Exit → Act → World → Prop} {E : Prop}
/-- Within a region that draws its order: the whole of a block by value, out of it and into it. -/
theorem step_load (hgd : o.guard = none) (ty : TypeId) (x : Operand) (ho : o.op = .load ty x) (g : Nat) (hx : a.eval x = .pointer (some ⟨g, 0, none⟩)) (t : TypeId) (cs : Array Value) (n : Nat) (e : TypeId)
    (hb : Blk w g t cs) (hu : P.underlying ty = some (.array n e)) (hi : (P.info? ty).map (·.size) = some cs.size) (h : K (a.put o.dst (.agg cs)) w) : if Region.wanted o (yielded ops a.tmps) = true then Oper.wp P o a w K Q else E := by
  rw [if_pos (by simp [Region.wanted, hgd])]
  exact wp_load_row ty x ho g hx t cs (0, 0) _ hb hu rfl hi h
theorem step_store (hgd : o.guard = none) (ty : TypeId) (x y : Operand) (ho : o.op = .store ty x y) (g : Nat) (cs : Array Value) (hx : a.eval x = .pointer (some ⟨g, 0, none⟩)) (hy : a.eval y = .agg cs) (t : TypeId) (old : Array Value)
    (hb : Blk w g t old) (hi : (P.info? ty).map (·.size) = some cs.size) (hold : old.size = cs.size) (h1 : cs.all (·.oneCell') = true)
    (h : ∀ W', Blk W' g t cs → w.grownBy W' (some g) → W'.heap.size = w.heap.size → K (a.put o.dst undef) W') : if Region.wanted o (yielded ops a.tmps) = true then Oper.wp P o a w K Q else E := by
  rw [if_pos (by simp [Region.wanted, hgd])]
  refine wp_store_row ty x y ho g cs hx hy t old hb hi hold h1 (h _ (setRow_heap w g old cs t (0, 0) hb) ⟨rfl, rfl, rfl, by simp [World.setRow], fun k _ hk => ?_⟩ (by simp [World.setRow]))
  simp only [World.setRow, Array.getElem?_modify]
  rw [if_neg (fun e => hk (by rw [e]))]
end
theorem fill_form {w : World} {B : Nat} {v : Value} {n : Nat} (h : GR.Own bytK w B v (fillL n)) : ∃ g c, v = .slice (some ⟨g, 0, none⟩) (fillL n).length c ∧ B ≤ g ∧ (fillL n).length ≤ c ∧ Hid (∀ j, j < (fillL n).length → w.cell? ⟨g, j, none⟩ = some (.int .u8 (bv ((fillL n).getD j 0)))) := by
  have hlen := fillL_length n
  have hc := h
  rcases h.2 with ⟨_, h0⟩ | ⟨g, cap, cur, rfl, hb, hg, h1, h2, h3, h4⟩
  · omega
  · refine ⟨g, cap, rfl, hb, h1, Lib.hid fun j hj => ?_⟩
    rw [cell_of_row w g j cur _ (0, 0) hg]
    have h5 := congrArg (fun z => z[j]?) h4
    rw [bytesV_cs] at h5
    simp only [List.getElem?_take, show j < (fillL n).length * bytK.s from by show j < _ * 1; omega, if_true, bytesV, List.getElem?_map, Array.getElem?_toList] at h5
    rw [h5, List.getElem?_eq_getElem hj, List.getD_eq_getElem?_getD, List.getElem?_eq_getElem hj]
    rfl
theorem out_idx (i : Nat) (hi : i < 32) : ∃ p q r t : Nat, IntKind.i64.wrap (Int.tdiv (i : Int) 4) = (p : Int) ∧ Int.tmod (i : Int) 4 = (q : Int) ∧ IntKind.i64.wrap (8 * (q : Int)) = (r : Int) ∧ IntKind.i64.wrap (24 - (r : Int)) = (t : Int) ∧ ((0 : Int) ≤ (p : Int) ∧ (p : Int) < 8 ∧ (0 : Int) ≤ (t : Int)) ∧
    Hid (p = i / 4 ∧ t = 24 - 8 * (i % 4) ∧ p < 8) := by
  refine ⟨i / 4, i % 4, 8 * (i % 4), 24 - 8 * (i % 4), ?_, ?_, ?_, ?_, ⟨by omega, by omega, by omega⟩, rfl, rfl, by omega⟩
  · rw [Int.tdiv_eq_ediv_of_nonneg (by omega), IntWalk.i64_in _ (by omega)]; omega
  · rw [Int.tmod_eq_emod_of_nonneg (by omega)]; omega
  · rw [IntWalk.i64_in _ (by omega)]; omega
  · rw [IntWalk.i64_in _ (by omega)]; omega

set_option maxRecDepth 100000 in
set_option maxHeartbeats 12800000 in
theorem refOf_any (s : ByteArray) (hs : s.size ≤ 70368744177664) (w : World) :
    Calls Try.prog 36 #[.string s] w fun e w' => e = .returned (.agg (arrB 32 (shaB s.data.toList))) ∧ Below w.heap.size w w' := by
  obtain ⟨bs, hbs⟩ : ∃ bs, bs = s.data.toList := ⟨_, rfl⟩
  have hlen : s.size = bs.length := by rw [hbs, Array.length_toList]; rfl
  have HLN := Lib.hid hlen
  have HBS := Lib.hid hbs
  have eu : IntKind.u64.wrap (s.size : Int) = (s.size : Int) := u64_small (by omega)
  clear hbs hlen
  go_enter Try.func36, Try.ntmps36
  go_wp2_with (first
    | (refine alloc_arr (w := w) rfl 64 rfl _ _ z32 ?_; intro W1 B_ L_ S_; have BW1 := Lib.hid B_; have LW1 := Lib.hid L_; have SW1 := Lib.hid S_; clear B_ L_ S_)
    | (refine conv_ownM (w := W1) rfl 9 72 _ rfl s rfl Try.underlying9 Try.underlying72 Try.underlying5 (by omega) ?_; intro v2 W2 O_ L_; have O2 := Lib.hid O_; have L2 := Lib.hid L_; clear O_ L_)
    | (go_at_call 56; refine (refFill_any s.size W2).mono ?_; rintro e W3 ⟨v3, rfl, O_, L_⟩; have O3 := Lib.hid O_; have L3 := Lib.hid L_; clear O_ L_))
  have hn0 := HLN.out
  obtain ⟨gF, cF, eF, hFB, hcF, HFc⟩ : ∃ gF cF, v3 = .slice (some ⟨gF, 0, none⟩) (fillL s.size).length cF ∧ W2.heap.size ≤ gF ∧ (fillL s.size).length ≤ cF ∧ Hid (∀ j, j < (fillL s.size).length → W3.cell? ⟨gF, j, none⟩ = some (.int .u8 (bv ((fillL s.size).getD j 0)))) := fill_form O3.out
  subst eF
  have hFl : gF < W3.heap.size := (O3.out.lt gF rfl).2
  obtain ⟨FL, hFL⟩ : ∃ FL, FL = fillL s.size := ⟨_, rfl⟩
  have HFL := Lib.hid hFL
  obtain ⟨nF, hnF⟩ : ∃ nF, nF = FL.length := ⟨_, rfl⟩
  have hnF2 : nF ≤ 72 := by rw [hnF, hFL, fillL_length]; have := zeros_lt s.size; omega
  rw [← hFL, ← hnF] at HFc hcF
  rw [← hFL, ← hnF]
  have HNF := Lib.hid hnF
  have H0 := Lib.hid (show w.heap.size + 1 = W1.heap.size ∧ W1.heap.size ≤ W2.heap.size ∧ W2.heap.size ≤ gF ∧ gF < W3.heap.size from ⟨SW1.out.symm, L2.out.size, hFB, hFl⟩)
  have HO := Lib.hid (O2.out.below L3.out)
  have HV := Lib.hid (show v2.ownBlock ≠ some gF from fun e => by have := (O2.out.lt gF e).2; omega)
  have HR := Lib.hid ((BW1.out.below L2.out (by have := SW1.out; omega)).below L3.out (by have := SW1.out; have := L2.out.size; omega))
  have HL := Lib.hid (bl_then (bl_then LW1.out L2.out) L3.out)
  clear BW1 LW1 SW1 O2 L2 O3 L3 hFL hnF hFB hFl hn0
  rw [← HBS.out] at HO
  go_loopg [3, 5] nF (fun gk s3 s5 wx => ∃ (i : Nat) (A : Addr) (n c : Nat), i ≤ nF ∧ gk = nF - i ∧ s5 = .int .i64 i ∧ s3 = .slice (some A) n c ∧ Hid (OwnM wx W1.heap.size (.slice (some A) n c) (bs ++ FL.take i)) ∧ Hid ((Value.slice (some A) n c).ownBlock ≠ some gF) ∧
    Hid (Blk wx w.heap.size 64 (arrB 32 fun _ => 0)) ∧ Hid (Below w.heap.size w wx) ∧ Hid (gF < wx.heap.size ∧ ∀ j, j < nF → wx.cell? ⟨gF, j, none⟩ = some (.int .u8 (bv (FL.getD j 0)))))
  case atStart =>
    obtain ⟨g2, c2, e2, -⟩ := HO.out.form
    refine ⟨0, ⟨g2, 0, none⟩, bs.length, c2, by omega, rfl, rfl, e2, Lib.hid (by rw [← e2]; simpa using HO.out), Lib.hid (by rw [← e2]; exact HV.out), HR, HL, Lib.hid ⟨H0.out.2.2.2, HFc.out⟩⟩
  case round =>
    clear HO HV HR HL HFc
    obtain ⟨i, A, n, c, hi, rfl, rfl, rfl, HO, HV, HR, HL, HF⟩ := hrel
    by_cases hlt : i < nF
    · have i0 : (0 : Int) ≤ (i : Int) := by omega
      have i1 : (i : Int) < (nF : Int) := by omega
      have cf := HF.out.2 i hlt
      go_wp2_with (at_builtin; refine append_ownM rfl (.tmp 22) (.tmp 27) _ rfl Try.underlying72 W1.heap.size (.slice (some A) n c) (bs ++ FL.take i) rfl (HO.out.below ((Below.refl _ _).alloc (Nat.le_refl _) _)) ⟨wr.heap.size, 0, none⟩ 1 1 [FL.getD i 0] rfl rfl (fun j hj => by obtain rfl : j = 0 := (by omega); rw [add_plain]; exact (Blk.new wr 5 #[.int .u8 (bv (FL.getD i 0))]).cell 0) (by have := HLN.out; have := HNF.out; simp only [List.length_append, List.length_take]; omega) (Nat.le_trans (by have := H0.out; have := HF.out.1; omega : W1.heap.size ≤ wr.heap.size) ((Below.refl wr.heap.size wr).alloc (Nat.le_refl _) _).size) ?_; intro v9 w9 O_ G_ E_; have O9 := Lib.hid O_; have G9 := Lib.hid G_; have E9 := Lib.hid E_; clear O_ G_ E_)
      obtain ⟨g9, c9, e9, hB9, -⟩ := O9.out.form
      have HT := Lib.hid (show bs ++ FL.take i ++ [FL.getD i 0] = bs ++ FL.take (i + 1) by
        have h1 : i < FL.length := by rw [← HNF.out]; exact hlt
        rw [List.append_assoc, List.take_succ_eq_append_getElem h1, List.getD_eq_getElem?_getD, List.getElem?_eq_getElem h1]
        rfl)
      rw [HT.out] at O9
      rw [HT.out] at e9
      subst e9
      have HG := Lib.hid (grown_step (grown_of_bl ((Below.refl wr.heap.size wr).alloc (Nat.le_refl _) (.cells #[.int .u8 (bv (FL.getD i 0))] 5)) (Value.slice (some A) n c).ownBlock) G9.out (.inl rfl))
      have HL9 := Lib.hid (bl_of_grown HL.out HG.out (fun k hk => by have := (HO.out.lt k hk).1; have := H0.out; omega))
      have HR9 := Lib.hid (HR.out.grown HG.out (fun e => by have := (HO.out.lt _ e.symm).1; have := H0.out; omega))
      have HF9 := Lib.hid (show gF < w9.heap.size ∧ ∀ j, j < nF → w9.cell? ⟨gF, j, none⟩ = some (.int .u8 (bv (FL.getD j 0))) from ⟨Nat.lt_of_lt_of_le HF.out.1 HG.out.size, fun j hj => (World.cell?_of_block (a := ⟨gF, j, none⟩) (HG.out.block gF HF.out.1 (fun e => HV.out e.symm))).trans (HF.out.2 j hj)⟩)
      have HV9 := Lib.hid (show (Value.slice (some ⟨g9, 0, none⟩) (bs ++ FL.take (i + 1)).length c9).ownBlock ≠ some gF from fun e => by
        rcases E9.out with h | h
        · rw [h] at e; exact HV.out e
        · rw [h] at e
          injection e with e
          have := HF.out.1
          simp at e
          omega)
      clear HT E9 G9 HG
      go_wp2
      go_roundg (nF - (i + 1))
      case measure => omega
      case rel => exact ⟨i + 1, _, _, c9, by omega, rfl, by go_num, rfl, O9, HV9, HR9, HL9, HF9⟩
    · obtain rfl : i = nF := by omega
      have HFU := Lib.hid (show bs ++ FL.take i = fullL bs by rw [HNF.out, List.take_length, HFL.out, HLN.out]; rfl)
      rw [HFU.out] at HO
      obtain ⟨g2, c2, e2, hB2, hc2, hm2, hcl⟩ := HO.out.form
      injection e2 with eA en ec
      injection eA with eA
      subst eA en ec
      obtain ⟨len, hlenE⟩ : ∃ x, x = (fullL bs).length := ⟨_, rfl⟩
      obtain ⟨NB, hNB⟩ : ∃ x, x = len / 64 := ⟨_, rfl⟩
      have hlen64 : len = 64 * NB := by have := fullL_mod bs; omega
      have hlmax : len ≤ 9223372036854775000 := by rw [hlenE, fullL, List.length_append, fillL_length]; have := zeros_lt bs.length; have := HLN.out; omega
      have HLE := Lib.hid hlenE
      have HL64 := Lib.hid hlen64
      have HNB := Lib.hid hNB
      rw [← hlenE] at hc2
      have HG2 := Lib.hid (show w.heap.size < g2 from by have := H0.out; omega)
      rw [← hlenE]
      clear HF HV hlenE hNB hlen64 hi hlt hcl hB2 HFU
      go_wp2_with (first
        | (go_at_call 57; refine (refStart_any wr).mono ?_; rintro e W4 ⟨rfl, L_⟩; have LW4 := Lib.hid L_; clear L_)
        | (refine alloc_arr (w := W4) rfl 99 rfl _ _ z8 ?_; intro W5 B_ L_ S_; have BW5 := Lib.hid B_; have LW5 := Lib.hid L_; have SW5 := Lib.hid S_; clear B_ L_ S_)
        | (refine store_arr (w := W5) rfl 99 _ _ rfl W4.heap.size (arrW 8 h0) rfl rfl _ _ BW5.out (by rw [arrW_size]; exact s8) (by rw [arrW_size, arrW_size]) (arrW_one _ _) ?_; intro W6 B_ G_ S_; have BW6 := Lib.hid B_; have GW6 := Lib.hid G_; have SW6 := Lib.hid S_; clear B_ G_ S_))
      obtain ⟨HO6, HR6, HL6, HS6⟩ : Hid (OwnM W6 W1.heap.size (.slice (some ⟨g2, 0, none⟩) len c) (fullL bs)) ∧ Hid (Blk W6 w.heap.size 64 (arrB 32 fun _ => 0)) ∧ Hid (Below w.heap.size w W6) ∧ Hid (g2 < W4.heap.size ∧ w.heap.size < W4.heap.size) := by
        have a1 := LW4.out.size; have a2 := SW5.out; have a3 := SW6.out; have a4 := H0.out; have a5 := HL.out.size; have a6 := HR.out.lt
        have hg2 : g2 < wr.heap.size := (HO.out.lt g2 rfl).2
        have hO : OwnM wr W1.heap.size (.slice (some ⟨g2, 0, none⟩) len c) (fullL bs) := by rw [HLE.out]; exact HO.out
        refine ⟨Lib.hid (((hO.below LW4.out).below LW5.out).kept GW6.out (fun e => by injection e with e; have e' : g2 = W4.heap.size := e; omega)), Lib.hid (((HR.out.below LW4.out (by omega)).below LW5.out (by omega)).grown GW6.out (fun e => by injection e with e; omega)), Lib.hid (bl_of_grown (bl_then (bl_then HL.out LW4.out) LW5.out) GW6.out (zero_lt_of (by omega) rfl)), Lib.hid ⟨by omega, by omega⟩⟩
      clear HO HR HL LW4 BW5 LW5 SW5 GW6 SW6
      go_loopg [7] NB (fun gk s7 wx => ∃ k at_ : Nat, k ≤ NB ∧ gk = NB - k ∧ s7 = .int .i64 at_ ∧ Hid (at_ = 64 * k) ∧ Hid (Blk wx W4.heap.size 99 (arrW 8 (stAt (fullL bs) k))) ∧ Hid (OwnM wx W1.heap.size (.slice (some ⟨g2, 0, none⟩) len c) (fullL bs)) ∧ Hid (Blk wx w.heap.size 64 (arrB 32 fun _ => 0)) ∧ Hid (Below w.heap.size w wx))
      case atStart => exact ⟨0, 0, by omega, rfl, rfl, Lib.hid rfl, BW6, HO6, HR6, HL6⟩
      case round =>
        clear HO6 HR6 HL6 BW6
        obtain ⟨k, at_, hk, rfl, rfl, hat, HSB, HO, HR, HL⟩ := hrel
        by_cases hlt : k < NB
        · have hatv := hat.out
          have hl64 := HL64.out
          have i0 : (0 : Int) ≤ (at_ : Int) := by omega
          have i1 : (at_ : Int) < (len : Int) := by omega
          have i3 : at_ + 64 ≤ c := by omega
          obtain ⟨a2, ha2⟩ : ∃ x, x = at_ + 64 := ⟨_, rfl⟩
          have e0 : IntKind.i64.wrap ((at_ : Int) + 64) = (a2 : Int) := by rw [IntWalk.i64_in _ (by omega)]; omega
          have i4 : (0 : Int) ≤ (a2 : Int) := by omega
          have i5 : (at_ : Int) ≤ (a2 : Int) := by omega
          have i6 : (a2 : Int) ≤ (c : Int) := by omega
          have i7 : a2 ≤ c := by omega
          have i8 : at_ ≤ a2 := by omega
          have i9 : ¬ c = at_ := by omega
          have i10 : a2 - at_ = 64 := by omega
          have HBY := Lib.hid (show Byt wr ⟨g2, at_, none⟩ 64 (blockAt (fullL bs) k) from fun j hj => by
            obtain ⟨g3, c3, e3, -, -, -, hcl⟩ := HO.out.form
            injection e3 with eA
            injection eA with eA
            injection eA with eA
            subst eA
            have h1 : at_ + j < (fullL bs).length := by rw [← HLE.out]; omega
            rw [Addr.add_mid, hcl _ h1, blockAt, hatv])
          have HA2 := Lib.hid (show a2 = 64 * (k + 1) by omega)
          clear hatv ha2 hl64
          go_wp2
          refine wp_region_held_drew (S := fun _ => True) (by kernel_rfl) ?_ (fun hHeld => ?_)
          · trivial
          refine wpAnyH_take (i := 1) (oi := { dst := some 37, op := Op.move (Operand.tmp 3), type := 72, pos := "ref.go:106", after := #[], guard := none }) (v := ?_) rfl (by kernel_rfl) (by kernel_rfl) (by kernel_rfl) (fun _ _ _ h => h) (Or.inl ⟨by rfl, ?_⟩) (by assumption) ?_
          rotate_left
          · intro w_ hSw
            (try dsimp only at hSw)
            go_simp
            first | done | with_reducible rfl
          try simp only [Act.put, List.setIfInBounds_toArray, List.set_cons_zero, List.set_cons_succ]
          refine wpAnyH_take (i := 2) (oi := { dst := some 38, op := Op.move (Operand.tmp 7), type := 3, pos := "ref.go:106", after := #[], guard := none }) (v := ?_) rfl (by kernel_rfl) (by kernel_rfl) (by kernel_rfl) (fun _ _ _ h => h) (Or.inl ⟨by rfl, ?_⟩) (by assumption) ?_
          rotate_left
          · intro w_ hSw
            (try dsimp only at hSw)
            go_simp
            first | done | with_reducible rfl
          try simp only [Act.put, List.setIfInBounds_toArray, List.set_cons_zero, List.set_cons_succ]
          refine wpAnyH_take (i := 3) (oi := { dst := some 39, op := Op.move (Operand.tmp 7), type := 3, pos := "ref.go:106", after := #[], guard := none }) (v := ?_) rfl (by kernel_rfl) (by kernel_rfl) (by kernel_rfl) (fun _ _ _ h => h) (Or.inl ⟨by rfl, ?_⟩) (by assumption) ?_
          rotate_left
          · intro w_ hSw
            (try dsimp only at hSw)
            go_simp
            first | done | with_reducible rfl
          try simp only [Act.put, List.setIfInBounds_toArray, List.set_cons_zero, List.set_cons_succ]
          refine wpAnyH_take (i := 4) (oi := { dst := some 40, op := Op.binOp BinOp.add 3 (Operand.tmp 39) (Operand.const (Value.int IntKind.i64 64)) 3, type := 3, pos := "ref.go:106", after := #[{ on := 3, ground := Ground.data }], guard := none }) (v := ?_) rfl (by kernel_rfl) (by kernel_rfl) (by kernel_rfl) (fun _ _ _ h => h) (Or.inl ⟨by rfl, ?_⟩) (by assumption) ?_
          rotate_left
          · intro w_ hSw
            (try dsimp only at hSw)
            go_simp
            first | done | with_reducible rfl
          try simp only [Act.put, List.setIfInBounds_toArray, List.set_cons_zero, List.set_cons_succ]
          refine wpAnyH_take (i := 5) (oi := { dst := some 41, op := Op.slice 72 (Operand.tmp 37) (some (Operand.tmp 38)) (some (Operand.tmp 40)) none, type := 72, pos := "ref.go:106", after := #[{ on := 1, ground := Ground.data }, { on := 2, ground := Ground.data }, { on := 4, ground := Ground.data }], guard := none }) (v := ?_) rfl (by kernel_rfl) (by kernel_rfl) (by kernel_rfl) (fun _ _ _ h => h) (Or.inl ⟨by rfl, ?_⟩) (by assumption) ?_
          rotate_left
          · intro w_ hSw
            (try dsimp only at hSw)
            go_simp
            first | done | with_reducible rfl
          try simp only [Act.put, List.setIfInBounds_toArray, List.set_cons_zero, List.set_cons_succ]
          refine wpAnyH_ready (rs := [0]) (by kernel_rfl) (by simp) ?_
          refine AllReadyH.cons (o := { dst := some 36, op := Op.load 99 (Operand.tmp 6), type := 99, pos := "ref.go:106", after := #[], guard := none }) rfl (fun K hK => ?_) AllReadyH.nil
          refine step_load rfl 99 _ rfl W4.heap.size rfl 99 _ _ _ HSB.out Try.underlying99 (by rw [arrW_size]; exact s8) ?_
          refine hK.out _ _ ?_ (fun hHeld => ?_)
          · trivial
          clear hK K
          try simp only [Act.put, List.setIfInBounds_toArray, List.set_cons_zero, List.set_cons_succ]
          refine wpAnyH_ready (rs := [6]) (by kernel_rfl) (by simp) ?_
          refine AllReadyH.cons (o := { dst := some 42, op := Op.call { callee := Callee.value (Operand.func 58), args := #[Operand.tmp 36, Operand.tmp 41], argTypes := #[99, 72] }, type := 99, pos := "ref.go:106", after := #[{ on := 0, ground := Ground.data }, { on := 5, ground := Ground.data }], guard := none }) rfl (fun K hK => ?_) AllReadyH.nil
          go_simp
          refine (made_any (stAt (fullL bs) k) ⟨g2, at_, none⟩ (c - at_) (blockAt (fullL bs) k) wr.drew HBY.out).mono ?_
          rintro e w5 ⟨rfl, L_⟩
          have L5 := Lib.hid (show Below wr.heap.size wr w5 from ⟨L_.os, L_.tape, L_.output, L_.size, L_.block⟩)
          clear L_
          go_wp2_with fail
          refine hK.out _ _ ?_ (fun hHeld => ?_)
          · trivial
          clear hK K
          try simp only [Act.put, List.setIfInBounds_toArray, List.set_cons_zero, List.set_cons_succ]
          refine wpAnyH_ready (rs := [7]) (by kernel_rfl) (by simp) ?_
          refine AllReadyH.cons (o := { dst := none, op := Op.store 99 (Operand.tmp 6) (Operand.tmp 42), type := 0, pos := "ref.go:106", after := #[{ on := 6, ground := Ground.data }, { on := 6, ground := Ground.chain }, { on := 0, ground := Ground.phase }, { on := 1, ground := Ground.phase }, { on := 2, ground := Ground.phase }, { on := 3, ground := Ground.phase }, { on := 4, ground := Ground.phase }, { on := 5, ground := Ground.phase }, { on := 6, ground := Ground.phase }], guard := none }) rfl (fun K hK => ?_) AllReadyH.nil
          refine step_store rfl 99 _ _ rfl W4.heap.size (arrW 8 (stAt (fullL bs) (k + 1))) rfl rfl 99 (arrW 8 (stAt (fullL bs) k)) (HSB.out.below L5.out HSB.out.lt) (by rw [arrW_size]; exact s8) (by rw [arrW_size, arrW_size]) (arrW_one _ _) ?_
          intro W9 B_ G_ S_
          have B9 := Lib.hid B_
          have G9 := Lib.hid G_
          clear B_ G_ S_
          refine hK.out _ _ ?_ (fun hHeld => ?_)
          · trivial
          clear hK K
          refine wpAnyH_done (by kernel_rfl) ?_ _
          have n1 := HS6.out
          have HO9 := Lib.hid ((HO.out.below L5.out).kept G9.out (fun e => by injection e with e; have e' : g2 = W4.heap.size := e; omega))
          have HR9 := Lib.hid ((HR.out.below L5.out HR.out.lt).grown G9.out (fun e => by injection e with e; omega))
          have HL9 := Lib.hid (bl_of_grown (bl_then HL.out L5.out) G9.out (zero_lt_of (by omega) rfl))
          clear n1 HO HR HL HSB G9 L5 HBY
          go_wp2
          go_roundg (NB - (k + 1))
          case measure => omega
          case rel => exact ⟨k + 1, a2, by omega, rfl, rfl, HA2, B9, HO9, HR9, HL9⟩
        · obtain rfl : k = NB := by omega
          obtain ⟨WL, hWL⟩ : ∃ W, W = wr := ⟨_, rfl⟩
          subst hWL
          have HX := Lib.hid (show ∀ j, j < 32 → outB (stAt (fullL bs) k) j = shaB s.data.toList j from fun j _ => by rw [shaB, ← HBS.out, ← HLE.out, ← HNB.out])
          have hat2 := hat.out
          have hl64 := HL64.out
          have i1 : ¬ (at_ : Int) < (len : Int) := by omega
          have i2 : (len : Int) ≤ (at_ : Int) := by omega
          obtain ⟨Z, hZ⟩ : ∃ Z, Z = stAt (fullL bs) k := ⟨_, rfl⟩
          rw [← hZ] at HSB HX
          clear hat2 hl64 hZ HO
          go_wp2_with (refine alloc_arr (w := WL) rfl 64 rfl _ _ z32 ?_; intro W7 B_ L_ S_; have BW7 := Lib.hid B_; have LW7 := Lib.hid L_; have SW7 := Lib.hid S_; clear B_ L_ S_)
          have HSB7 := Lib.hid (HSB.out.below LW7.out HSB.out.lt)
          have HR7 := Lib.hid (HR.out.below LW7.out HR.out.lt)
          have HL7 := Lib.hid (bl_then HL.out LW7.out)
          have H7 := Lib.hid (show w.heap.size < WL.heap.size ∧ W4.heap.size < WL.heap.size from ⟨HR.out.lt, HSB.out.lt⟩)
          clear HSB HR HL LW7 SW7
          go_loopg [9] 32 (fun gk s9 wx => ∃ (i : Nat) (F : Nat → UInt8), i ≤ 32 ∧ gk = 32 - i ∧ s9 = .int .i64 i ∧ Hid (∀ j, j < i → F j = outB Z j) ∧ Hid (Blk wx WL.heap.size 64 (arrB 32 F)) ∧ Hid (W7.grownBy wx (some WL.heap.size)))
          case atStart => exact ⟨0, fun _ => 0, by omega, rfl, rfl, Lib.hid (fun j h => absurd h (Nat.not_lt_zero _)), BW7, Lib.hid (grown_refl _ _)⟩
          case round =>
            obtain ⟨i, F, hi, rfl, rfl, hF, hB, hG⟩ := hrel
            by_cases hlt2 : i < 32
            · have j0 : (0 : Int) ≤ (i : Int) := by omega
              have j1 : (i : Int) < 32 := by omega
              obtain ⟨p, q, r, t, e0, e1, e2, e3, ⟨f0, f1, f2⟩, HP⟩ := out_idx i hlt2
              have hp_ := HP.out.1
              subst hp_
              have n1 := H7.out
              have cz := ((HSB7.out.grown hG.out (fun e => by injection e with e; omega)).cell (i / 4)).trans (arrW_get 8 Z HP.out.2.2)
              have cb := (hB.out.cell i).trans (arrB_get 32 F hlt2)
              have fb := hB.out.frozen i
              have HB9 := Lib.hid (show Blk (wr.setCell ⟨WL.heap.size, i, none⟩ (.int .u8 (bv (wByte (Z (i / 4) >>> t))))) WL.heap.size 64 (arrB 32 (fun j => if j = i then outB Z i else F j)) from by
                have := hB.out.set_ i (.int .u8 (bv (wByte (Z (i / 4) >>> t))))
                rw [arrB_set, HP.out.2.1] at this
                rw [HP.out.2.1]
                exact this)
              clear n1
              go_wp2
              go_roundg (32 - (i + 1))
              case measure => omega
              case rel => exact ⟨i + 1, _, by omega, rfl, by go_num, Lib.hid (fun j hj => by
                by_cases hji : j = i
                · subst hji; exact if_pos rfl
                · exact (if_neg hji).trans (hF.out j (by omega))), HB9, Lib.hid (grown_step hG.out (grown_set' _ _ _ _) (.inl rfl))⟩
            · obtain rfl : i = 32 := by omega
              have HE := Lib.hid (arrB_congr 32 F (shaB s.data.toList) (fun q hq => (hF.out q hq).trans (HX.out q hq)))
              have HB := Lib.hid hB.out
              rw [HE.out] at HB
              have n1 := H7.out
              have HR9 := Lib.hid (HR7.out.grown hG.out (fun e => by injection e with e; omega))
              have HL9 := Lib.hid (bl_of_grown HL7.out hG.out (zero_lt_of (by omega) rfl))
              clear n1 hB hG hF HX
              go_wp2_with (first
                | (refine load_arr rfl 64 _ rfl WL.heap.size rfl _ _ _ _ HB.out Try.underlying64 (by rw [arrB_size]; exact s32) ?_)
                | (refine store_arr rfl 64 _ _ rfl w.heap.size (arrB 32 (shaB s.data.toList)) rfl rfl _ _ HR9.out (by rw [arrB_size]; exact s32) (by rw [arrB_size, arrB_size]) (arrB_one _ _) ?_; intro W9 B_ G_ S_; have B9 := Lib.hid B_; have G9 := Lib.hid G_; clear B_ G_ S_))
              (try simp only [Exit.inBlock, Exit.then])
              refine bodyPost_ret (results_cell_row rfl _ _ w.heap.size _ (arrB 32 (shaB s.data.toList)) (0, 0) _ rfl B9.out Try.underlying64 rfl (by rw [arrB_size]; exact s32)) rfl ?_
              exact ⟨rfl, bl_of_grown HL9.out G9.out (zero_lt_of (by omega) rfl)⟩
end Go.Proofs.Ytpklkjekkbpeoaa
