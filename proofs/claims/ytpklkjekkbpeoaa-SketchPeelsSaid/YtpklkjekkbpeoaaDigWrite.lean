/- DERIVED. Bytes are written into a Hash: the program's Write. -/
import Derived.Test.YtpklkjekkbpeoaaDigAbs
import Derived.Test.YtpklkjekkbpeoaaDigFill
import Derived.Test.YtpklkjekkbpeoaaDigStep
import Derived.Laws.Cover3
namespace Go.Proofs.Ytpklkjekkbpeoaa
open Go.RowKit
set_option linter.unusedVariables false
set_option linter.unusedSimpArgs false
attribute [local irreducible] arrW arrB hashC wpList Code.wp

theorem s74 : (Try.prog.info? 115).map (·.size) = some 74 := by kernel_rfl
theorem z64b : (Try.prog.info? 113).map (fun i => (i.zero, i.size)) = some (some (.agg (arrB 64 fun _ => 0)), 64) := by
  unfold arrB
  kernel_rfl
theorem s64b : (Try.prog.info? 113).map (·.size) = some 64 := by kernel_rfl
section
variable {P : Program} {ops : Array Oper} {rest : List Oper} {o : Oper} {a : Act} {w : World} {Q : Exit → Act → World → Prop}
theorem run_store_part (w : World) (g oo : Nat) (t ty : TypeId) (cur : Array Value) (cells : Array Value) (hb : Blk w g t cur) (hfit : oo + cells.size ≤ cur.size) (hi : (P.info? ty).map (·.size) = some cells.size) (h1 : cells.all (·.oneCell') = true) :
    (Instr.storeAt ty (.pointer (some ⟨g, oo, none⟩)) (.agg cells)).run P w = .ok () (w.setRow g (cur.toList.take oo ++ cells.toList ++ cur.toList.drop (oo + cells.toList.length)).toArray) := by
  have := run_storeCells_at P g oo t cells.toList 0 cur w hb (by simpa using hfit) (fun v hv => (Array.all_eq_true_iff_forall_mem.1 h1) v (by simpa using hv))
  cases hq : P.info? ty with
  | none => simp [hq] at hi
  | some i =>
    have hs : cells.size = i.size := by simp [hq] at hi; omega
    simp only [Nat.add_zero] at this
    simp only [Instr.storeAt, Instr.sureAddr, Sem.run_bind, Sem.run_pure, Result.andThen_ok]
    simp [storeVar, sizeOf, typeInfo, hq, Value.cells, hs, this]
theorem setRow_grown (w : World) (g : Nat) (cs : Array Value) : w.grownBy (w.setRow g cs) (some g) := ⟨rfl, rfl, rfl, by simp [World.setRow], fun k _ hk => by
  simp only [World.setRow, Array.getElem?_modify]
  rw [if_neg (fun e => hk (by rw [e]))]⟩
theorem store_part (hgd : o.guard = none) (ty : TypeId) (x y : Operand) (ho : o.op = .store ty x y) (g oo : Nat) (cs : Array Value) (hx : a.eval x = .pointer (some ⟨g, oo, none⟩)) (hy : a.eval y = .agg cs) (t : TypeId) (cur : Array Value)
    (hb : Blk w g t cur) (hfit : oo + cs.size ≤ cur.size) (hi : (P.info? ty).map (·.size) = some cs.size) (h1 : cs.all (·.oneCell') = true)
    (h : ∀ W', Blk W' g t (cur.toList.take oo ++ cs.toList ++ cur.toList.drop (oo + cs.toList.length)).toArray → w.grownBy W' (some g) → wpList P ops Q rest (a.put o.dst undef) W') : wpList P ops Q (o :: rest) a w := by
  refine wpList_plain hgd fun K hK => ?_
  unfold Oper.wp execOp
  simp only [ho, hx, hy, Sem.run_bind, run_store_part w g oo t ty cur cs hb hfit hi h1, Result.andThen_ok]
  exact hK _ _ (h _ (setRow_heap w g cur _ t (0, 0) hb) (setRow_grown w g _))
theorem step_store_part {K : Act → World → Prop} {E : Prop} (hgd : o.guard = none) (ty : TypeId) (x y : Operand) (ho : o.op = .store ty x y) (g oo : Nat) (cs : Array Value) (hx : a.eval x = .pointer (some ⟨g, oo, none⟩)) (hy : a.eval y = .agg cs) (t : TypeId) (cur : Array Value)
    (hb : Blk w g t cur) (hfit : oo + cs.size ≤ cur.size) (hi : (P.info? ty).map (·.size) = some cs.size) (h1 : cs.all (·.oneCell') = true)
    (h : ∀ W', Blk W' g t (cur.toList.take oo ++ cs.toList ++ cur.toList.drop (oo + cs.toList.length)).toArray → w.grownBy W' (some g) → K (a.put o.dst undef) W') : if Region.wanted o (yielded ops a.tmps) = true then Oper.wp P o a w K Q else E := by
  rw [if_pos (by simp [Region.wanted, hgd])]
  unfold Oper.wp execOp
  simp only [ho, hx, hy, Sem.run_bind, run_store_part w g oo t ty cur cs hb hfit hi h1, Result.andThen_ok]
  exact h _ (setRow_heap w g cur _ t (0, 0) hb) (setRow_grown w g _)
theorem load_part (hgd : o.guard = none) (ty : TypeId) (x : Operand) (ho : o.op = .load ty x) (g oo : Nat) (hx : a.eval x = .pointer (some ⟨g, oo, none⟩)) (cs : Array Value) (n : Nat) (e : TypeId) (hc : w.rangeAt g oo cs.toList) (hu : P.underlying ty = some (.array n e)) (hi : (P.info? ty).map (·.size) = some cs.size)
    (h : wpList P ops Q rest (a.put o.dst (.agg cs)) w) : wpList P ops Q (o :: rest) a w :=
  wpList_load_mid hgd ty x ho g oo hx cs.toList _ hc hu rfl (by rw [Array.length_toList]; exact hi) (by simpa using h)
theorem step_load_part {K : Act → World → Prop} {E : Prop} (hgd : o.guard = none) (ty : TypeId) (x : Operand) (ho : o.op = .load ty x) (g oo : Nat) (hx : a.eval x = .pointer (some ⟨g, oo, none⟩)) (cs : Array Value) (n : Nat) (e : TypeId) (hc : w.rangeAt g oo cs.toList) (hu : P.underlying ty = some (.array n e)) (hi : (P.info? ty).map (·.size) = some cs.size)
    (h : K (a.put o.dst (.agg cs)) w) : if Region.wanted o (yielded ops a.tmps) = true then Oper.wp P o a w K Q else E := by
  rw [if_pos (by simp [Region.wanted, hgd])]
  exact wp_load_mid ty x ho g oo hx cs.toList _ hc hu rfl (by rw [Array.length_toList]; exact hi) (by simpa using h)
theorem step_copy_part {K : Act → World → Prop} {E : Prop} (hgd : o.guard = none) (d s : Operand) (dT sT : TypeId) (ho : o.op = .call { callee := .builtin .copy, args := #[d, s], argTypes := #[dT, sT] }) (elem : TypeId) (g oo dLen dCap : Nat) (ad : Addr) (sLen sCap : Nat) (cur : Array Value) (t : TypeId) (cs : List Value)
    (hd : a.eval d = .slice (some ⟨g, oo, none⟩) dLen dCap) (hs' : a.eval s = .slice (some ad) sLen sCap) (hu : P.underlying dT = some (.slice elem)) (hs : (P.info? elem).map (·.size) = some 1) (hg : Blk w g t cur) (hn : cs.length = Nat.min sLen dLen)
    (hsrc : ∀ j v, cs[j]? = some v → w.cell? (ad.add j) = some v) (hfit : oo + cs.length ≤ cur.size) (h1 : ∀ v ∈ cs, v.oneCell' = true)
    (h : ∀ W', Blk W' g t (cur.toList.take oo ++ cs ++ cur.toList.drop (oo + cs.length)).toArray → w.grownBy W' (some g) → K (a.put o.dst (goInt cs.length)) W') : if Region.wanted o (yielded ops a.tmps) = true then Oper.wp P o a w K Q else E := by
  rw [if_pos (by simp [Region.wanted, hgd])]
  have hrun := run_copy_row (P := P) w dT sT o.type elem g oo dLen dCap ad sLen sCap cur t cs hu hs hg hn hsrc hfit h1
  unfold Oper.wp
  simp only [execOp, ho, resolve, invoke, builtin, Sem.run_bind, Sem.run_pure, Result.andThen_ok, List.map_toArray, List.map_cons, List.map_nil, hd, hs', hrun]
  exact h _ (setRow_heap w g cur _ t (0, 0) hg) (setRow_grown w g _)
end
theorem hash_state {w : World} {g : Nat} {t : TypeId} {st : Nat → W32} {rest : Nat → UInt8} {held n : Nat} (h : Blk w g t (hashC st rest held n)) : w.rangeAt g 0 (arrW 8 st).toList := fun j v hv => by
  have hj : j < 8 := by
    have := (List.getElem?_eq_some_iff.1 hv).1
    rwa [Array.length_toList, arrW_size] at this
  rw [Array.getElem?_toList, arrW_get _ _ hj] at hv
  rw [Nat.zero_add, h.cell j, hashC_st _ _ _ _ hj, hv]
theorem byt_range {w : World} {g oo : Nat} {m : Nat → UInt8} (h : Byt w ⟨g, oo, none⟩ 64 m) : w.rangeAt g oo (arrB 64 m).toList := fun j v hv => by
  have hj : j < 64 := by
    have := (List.getElem?_eq_some_iff.1 hv).1
    rwa [Array.length_toList, arrB_size] at this
  rw [Array.getElem?_toList, arrB_get _ _ hj] at hv
  rw [← Addr.add_mid, h j hj, hv]
theorem hash_rest {w : World} {g : Nat} {t : TypeId} {st : Nat → W32} {rest : Nat → UInt8} {held n : Nat} (h : Blk w g t (hashC st rest held n)) : Byt w ⟨g, 8, none⟩ 64 rest := fun j hj => by
  rw [Addr.add_mid, h.cell _, hashC_rest _ _ _ _ hj]

theorem range_app (pf : Nat → UInt8) (q k : Nat) : (List.range q).map pf ++ (List.range k).map (fun j => pf (q + j)) = (List.range (q + k)).map pf := by
  rw [List.range_add, List.map_append, List.map_map]
  rfl
theorem blk_byt {w : World} {g : Nat} {t : TypeId} {m : Nat → UInt8} (h : Blk w g t (arrB 64 m)) : Byt w ⟨g, 0, none⟩ 64 m := fun j hj => by
  rw [add_plain, h.cell j, arrB_get _ _ hj]
theorem step_facts {w wr : World} {gH gb ob L c q m cc o' : Nat} {pf : Nat → UInt8} (hP : Byt w ⟨gb, ob, none⟩ L pf) (hne : 0 < L → gb ≠ gH) (hM : m = L - q ∧ cc = c - q ∧ (0 < m → o' = ob + q)) (hm : 0 < m) (hg : w.grownBy wr (some gH)) :
    Byt wr ⟨gb, o', none⟩ m (fun j => pf (q + j)) := fun j hj => by
  have h1 := hP (q + j) (by omega)
  have hlt := World.block_lt_of_cell? w _ h1
  rw [block_of_add] at hlt
  rw [Addr.add_mid] at h1
  rw [Addr.add_mid, hM.2.2 hm, Nat.add_assoc]
  exact (World.cell?_of_block (a := ⟨gb, ob + (q + j), none⟩) (hg.block gb hlt (fun e => hne (by omega) (by injection e)))).trans h1
set_option maxRecDepth 100000 in
set_option maxHeartbeats 12800000 in
theorem write_any (gH gb ob L c held0 n0 : Nat) (st0 : Nat → W32) (rest0 pf : Nat → UInt8) (l0 : List UInt8) (w : World) (hH : Blk w gH 115 (hashC st0 rest0 held0 n0)) (hA : Abs st0 rest0 held0 l0) (hP : Byt w ⟨gb, ob, none⟩ L pf) (hne : 0 < L → gb ≠ gH) (hc : L ≤ c) (hb : n0 + L < 9223372036854775808) (hb2 : c < 9223372036854775808) :
    Calls Try.prog 71 #[.pointer (some ⟨gH, 0, none⟩), .slice (some ⟨gb, ob, none⟩) L c] w fun e w' => e = .returned (.tuple #[]) ∧ (∃ st rest held, Abs st rest held (l0 ++ (List.range L).map pf) ∧ Blk w' gH 115 (hashC st rest held (n0 + L))) ∧ w.grownBy w' (some gH) := by
  have c3 : w.cell? ⟨gH, 73, none⟩ = some (.int .u64 n0) := (hH.cell 73).trans (hashC_n _ _ _ _)
  have f3 := hH.frozen 73
  have e0 : IntKind.u64.wrap (L : Int) = (L : Int) := u64_small (by omega)
  have e1 : IntKind.u64.wrap ((n0 : Int) + (L : Int)) = ((n0 + L : Nat) : Int) := by rw [← u64_small (n := n0 + L) (by omega)]; congr 1
  obtain ⟨n1, hn1⟩ : ∃ x, x = n0 + L := ⟨_, rfl⟩
  rw [← hn1] at e1 ⊢
  have HH := Lib.hid hH
  have HA0 := Lib.hid hA
  have HP := Lib.hid hP
  have HNE := Lib.hid hne
  clear hH hA hP hne hn1 hb
  go_enter Try.func71, Try.ntmps71
  go_wp2
  have HB0 := Lib.hid (show Blk (w.setCell ⟨gH, 73, none⟩ (.int .u64 (n1 : Int))) gH 115 (hashC st0 rest0 held0 n1) from by
    have := HH.out.set_ 73 (.int .u64 (n1 : Int))
    rw [hashC_setN] at this
    exact this)
  clear c3 f3 e0 e1
  go_loopg [1] L (fun gk s1 wx => ∃ (q m cc o' held : Nat) (st : Nat → W32) (rest : Nat → UInt8), q ≤ L ∧ gk = L - q ∧ s1 = .slice (some ⟨gb, o', none⟩) m cc ∧ Hid (m = L - q ∧ cc = c - q ∧ (0 < m → o' = ob + q)) ∧ Hid (Abs st rest held (l0 ++ (List.range q).map pf)) ∧ Hid (Blk wx gH 115 (hashC st rest held n1)) ∧ Hid (w.grownBy wx (some gH)))
  case atStart => exact ⟨0, L, c, ob, held0, st0, rest0, by omega, rfl, rfl, Lib.hid ⟨rfl, rfl, fun _ => rfl⟩, Lib.hid (by simpa using HA0.out), HB0, Lib.hid (grown_set' _ _ _ _)⟩
  case round =>
    clear HB0
    obtain ⟨q, m, cc, o', held, st, rest, hq, rfl, rfl, HM, HA, HB, HG⟩ := hrel
    have hmv := HM.out
    by_cases hm : 0 < m
    · have HL := Lib.hid (step_facts HP.out HNE.out HM.out hm HG.out)
      have ch : wr.cell? ⟨gH, 72, none⟩ = some (.int .i64 held) := (HB.out.cell 72).trans (hashC_held _ _ _ _)
      have fh := HB.out.frozen 72
      have h64 : held < 64 := by have := HA.out.2.1; omega
      have m0 : (0 : Int) < (m : Int) := by omega
      by_cases hA : held = 0 ∧ 64 ≤ m
      · obtain ⟨rfl, hm64⟩ := hA
        have g0 : decide (64 ≤ (m : Int)) = true := decide_eq_true (by omega)
        have g1 : (64 : Int) ≤ (cc : Int) := by omega
        have g2 : 64 ≤ cc := by omega
        have HPART := Lib.hid (fun j hj => HL.out j (Nat.lt_of_lt_of_le hj hm64) : Byt wr ⟨gb, o', none⟩ 64 (fun j => pf (q + j)))
        have hArr : ∀ W, (Instr.arrayAt 113 (.slice (some ⟨gb, o', none⟩) 64 cc)).run Try.prog W = .ok (.pointer (some ⟨gb, o', none⟩)) W := fun W => run_arrayAt W _ _ 64 _ 64 cc Try.underlying113 (Nat.le_refl _)
        clear hmv
        go_wp2_with (first
          | (refine load_part rfl 113 _ rfl gb o' rfl (arrB 64 (fun j => pf (q + j))) _ _ (byt_range HPART.out) Try.underlying113 (by rw [arrB_size]; exact s64b) ?_)
          | (refine alloc_arr (w := wr) rfl 113 rfl _ _ z64b ?_; intro W1 B_ L_ S_; have B1 := Lib.hid B_; have L1 := Lib.hid L_; have S1 := Lib.hid S_; clear B_ L_ S_)
          | (refine store_arr (w := W1) rfl 113 _ _ rfl wr.heap.size (arrB 64 (fun j => pf (q + j))) rfl rfl _ _ B1.out (by rw [arrB_size]; exact s64b) (by rw [arrB_size, arrB_size]) (arrB_one _ _) ?_; intro W2 B_ G_ S_; have B2 := Lib.hid B_; have G2 := Lib.hid G_; have S2 := Lib.hid S_; clear B_ G_ S_; have HB2 := Lib.hid ((HB.out.below L1.out HB.out.lt).grown G2.out (fun e => by injection e with e; have := HB.out.lt; omega)))
          | (refine load_part (w := W2) rfl 99 _ rfl gH 0 rfl (arrW 8 st) _ _ (hash_state HB2.out) Try.underlying99 (by rw [arrW_size]; exact s8) ?_)
          | (go_at_call 90; refine (step_any st ⟨wr.heap.size, 0, none⟩ (fun j => pf (q + j)) W2 (blk_byt B2.out)).mono ?_; rintro e W3 ⟨rfl, L_⟩; have L3 := Lib.hid L_; clear L_; have HB3 := Lib.hid (HB2.out.below L3.out HB2.out.lt))
          | (refine store_part (w := W3) rfl 99 _ _ rfl gH 0 (arrW 8 (madeF st (fun j => pf (q + j)))) rfl rfl 115 _ HB3.out (by rw [arrW_size, hashC_size]; omega) (by rw [arrW_size]; exact s8) (arrW_one _ _) ?_; intro W4 B_ G_; rw [hashC_state] at B_; have B4 := Lib.hid B_; have G4 := Lib.hid G_; clear B_ G_))
        · skip
          have HGA := Lib.hid (grown_step (grown_step (grown_step (grown_step HG.out (grown_of_bl L1.out (some gH)) (.inl rfl)) G2.out (.inr (fun b hb => by injection hb with hb; have := HG.out.size; omega))) (grown_of_bl L3.out (some gH)) (.inl rfl)) G4.out (.inl rfl))
          have HAA := Lib.hid (show Abs (madeF st (fun j => pf (q + j))) rest 0 (l0 ++ (List.range (q + 64)).map pf) from by
            have := HA.out.block (fun j => pf (q + j))
            rw [List.append_assoc, range_app] at this
            exact this)
          have HMV := Lib.hid (show q + 64 ≤ L ∧ m - 64 = L - (q + 64) ∧ cc - 64 = c - (q + 64) ∧ (cc = 64 → 0 = c - (q + 64) ∧ ¬ 0 < m - 64) ∧ (0 < m - 64 → o' + 64 = ob + (q + 64)) from by
            have := HM.out
            refine ⟨by omega, by omega, by omega, fun h => ⟨by omega, by omega⟩, fun h => by omega⟩)
          clear HA HG L1 G2 L3 G4 HB2 HB3 HPART HL B1 B2 S1 S2 HB
          go_roundg (L - (q + 64))
          case measure => have := HMV.out; omega
          case rel => exact ⟨q + 64, m - 64, 0, o', 0, _, rest, HMV.out.1, rfl, rfl, Lib.hid ⟨HMV.out.2.1, (HMV.out.2.2.2.1 (by assumption)).1, fun h => absurd h (HMV.out.2.2.2.1 (by assumption)).2⟩, HAA, B4, HGA⟩
        · skip
          have HGA := Lib.hid (grown_step (grown_step (grown_step (grown_step HG.out (grown_of_bl L1.out (some gH)) (.inl rfl)) G2.out (.inr (fun b hb => by injection hb with hb; have := HG.out.size; omega))) (grown_of_bl L3.out (some gH)) (.inl rfl)) G4.out (.inl rfl))
          have HAA := Lib.hid (show Abs (madeF st (fun j => pf (q + j))) rest 0 (l0 ++ (List.range (q + 64)).map pf) from by
            have := HA.out.block (fun j => pf (q + j))
            rw [List.append_assoc, range_app] at this
            exact this)
          have HMV := Lib.hid (show q + 64 ≤ L ∧ m - 64 = L - (q + 64) ∧ cc - 64 = c - (q + 64) ∧ (cc = 64 → 0 = c - (q + 64) ∧ ¬ 0 < m - 64) ∧ (0 < m - 64 → o' + 64 = ob + (q + 64)) from by
            have := HM.out
            refine ⟨by omega, by omega, by omega, fun h => ⟨by omega, by omega⟩, fun h => by omega⟩)
          clear HA HG L1 G2 L3 G4 HB2 HB3 HPART HL B1 B2 S1 S2 HB
          go_roundg (L - (q + 64))
          case measure => have := HMV.out; omega
          case rel => exact ⟨q + 64, m - 64, cc - 64, o' + 64, 0, _, rest, HMV.out.1, rfl, rfl, Lib.hid ⟨HMV.out.2.1, HMV.out.2.2.1, HMV.out.2.2.2.2⟩, HAA, B4, HGA⟩
      · have HNA := Lib.hid hA
        clear hA hmv
        go_upto_region 3 with fail
        go_cut [30] from 18 to 84 (fun s30 wx => s30 = .bool false ∧ wr = wx)
        case first =>
          by_cases h0 : held = 0
          · have g0 : ((held : Int) == 0) = true := by rw [h0]; rfl
            have g1 : decide (64 ≤ (m : Int)) = false := decide_eq_false (by have := HNA.out; omega)
            clear h0
            go_wp2_with fail
            go_meet
            case rel => exact ⟨rfl, rfl⟩
          · have g0 : ((held : Int) == 0) = false := by simpa using h0
            go_wp2_with fail
            go_meet
            case rel => exact ⟨rfl, rfl⟩
        case rest =>
          obtain ⟨rfl, rfl⟩ := hcut
          obtain ⟨k, hk⟩ : ∃ k, k = Nat.min m (64 - held) := ⟨_, rfl⟩
          have hk1 : 1 ≤ k ∧ k ≤ m ∧ held + k ≤ 64 ∧ (held + k < 64 → k = m) := by rw [hk]; have : Nat.min m (64 - held) = min m (64 - held) := rfl; rw [this]; omega
          have HK := Lib.hid hk
          have hka := hk1.1
          have hkb := hk1.2.1
          have hkc := hk1.2.2.1
          have HK1 := Lib.hid hk1
          obtain ⟨ps, hps⟩ : ∃ ps, ps = (List.range k).map (fun j => pf (q + j)) := ⟨_, rfl⟩
          have hpl : ps.length = k := by rw [hps]; simp
          have HPS := Lib.hid hps
          have HPL := Lib.hid hpl
          have HSRC := Lib.hid (show ∀ j v, (bytesV ps)[j]? = some v → wr.cell? ((⟨gb, o', none⟩ : Addr).add j) = some v from fun j v hv => by
            have hj : j < k := by have := (List.getElem?_eq_some_iff.1 hv).1; rwa [bytesV_len, hpl] at this
            rw [HL.out j (by omega), ← hv, bytesV, List.getElem?_map, hps, List.getElem?_map, List.getElem?_range hj]
            rfl)
          have h1 : (held : Int) ≤ 64 := by omega
          have h2 : (0 : Int) ≤ (held : Int) := by omega
          obtain ⟨hk2, hhk2⟩ : ∃ x, x = held + k := ⟨_, rfl⟩
          have e0 : IntKind.i64.wrap ((held : Int) + (k : Int)) = (hk2 : Int) := by rw [IntWalk.i64_in _ (by omega)]; omega
          have h3 : (k : Int) ≤ (m : Int) := by omega
          have h4 : (0 : Int) ≤ (k : Int) := by omega
          have h5 : held ≤ 64 := by omega
          have h6 : ¬ 64 = held := by omega
          have h7 : (m : Int) ≤ (cc : Int) := by have := HM.out; omega
          have h8 : m ≤ cc := by have := HM.out; omega
          have HC := Lib.hid (show q + k ≤ L ∧ m - k = L - (q + k) ∧ (cc = k → 0 = c - (q + k) ∧ ¬ 0 < m - k) ∧ cc - k = c - (q + k) ∧ (0 < m - k → o' + k = ob + (q + k)) from by
            have := HM.out
            refine ⟨by omega, by omega, fun h => ⟨by omega, by omega⟩, by omega, fun h => by omega⟩)
          have HH2 := Lib.hid hhk2
          clear hk hk1 hps hpl hhk2 m0 HL
          go_wp2
          refine wp_region_held_drew (S := fun w' => w'.cell? ⟨gH, 72, none⟩ = some (.int .i64 (held : Int))) (by kernel_rfl) ?_ (fun hHeld => ?_)
          · exact ch
          refine wpAnyH_take (i := 0) (oi := { dst := some 45, op := Op.move (Operand.tmp 0), type := 93, pos := "digest.go:36", after := #[], guard := none }) (v := ?_) rfl (by kernel_rfl) (by kernel_rfl) (by kernel_rfl) (fun _ _ _ h => h) (Or.inl ⟨by rfl, ?_⟩) (by assumption) ?_
          rotate_left
          · intro w_ hSw
            (try dsimp only at hSw)
            go_simp
            first | done | with_reducible rfl
          try simp only [Act.put, List.setIfInBounds_toArray, List.set_cons_zero, List.set_cons_succ]
          refine wpAnyH_take (i := 1) (oi := { dst := some 46, op := Op.nilCheck (Operand.tmp 45), type := 0, pos := "digest.go:36", after := #[{ on := 0, ground := Ground.data }], guard := none }) (v := ?_) rfl (by kernel_rfl) (by kernel_rfl) (by kernel_rfl) (fun _ _ _ h => h) (Or.inl ⟨by rfl, ?_⟩) (by assumption) ?_
          rotate_left
          · intro w_ hSw
            (try dsimp only at hSw)
            go_simp
            first | done | with_reducible rfl
          try simp only [Act.put, List.setIfInBounds_toArray, List.set_cons_zero, List.set_cons_succ]
          refine wpAnyH_take (i := 2) (oi := { dst := some 47, op := Op.fieldAddr 115 (Operand.tmp 46) 1, type := 0, pos := "digest.go:36", after := #[{ on := 1, ground := Ground.data }], guard := none }) (v := ?_) rfl (by kernel_rfl) (by kernel_rfl) (by kernel_rfl) (fun _ _ _ h => h) (Or.inl ⟨by rfl, ?_⟩) (by assumption) ?_
          rotate_left
          · intro w_ hSw
            (try dsimp only at hSw)
            go_simp
            first | done | with_reducible rfl
          try simp only [Act.put, List.setIfInBounds_toArray, List.set_cons_zero, List.set_cons_succ]
          refine wpAnyH_take (i := 3) (oi := { dst := some 48, op := Op.move (Operand.tmp 0), type := 93, pos := "digest.go:36", after := #[], guard := none }) (v := ?_) rfl (by kernel_rfl) (by kernel_rfl) (by kernel_rfl) (fun _ _ _ h => h) (Or.inl ⟨by rfl, ?_⟩) (by assumption) ?_
          rotate_left
          · intro w_ hSw
            (try dsimp only at hSw)
            go_simp
            first | done | with_reducible rfl
          try simp only [Act.put, List.setIfInBounds_toArray, List.set_cons_zero, List.set_cons_succ]
          refine wpAnyH_take (i := 4) (oi := { dst := some 49, op := Op.nilCheck (Operand.tmp 48), type := 0, pos := "digest.go:36", after := #[{ on := 3, ground := Ground.data }], guard := none }) (v := ?_) rfl (by kernel_rfl) (by kernel_rfl) (by kernel_rfl) (fun _ _ _ h => h) (Or.inl ⟨by rfl, ?_⟩) (by assumption) ?_
          rotate_left
          · intro w_ hSw
            (try dsimp only at hSw)
            go_simp
            first | done | with_reducible rfl
          try simp only [Act.put, List.setIfInBounds_toArray, List.set_cons_zero, List.set_cons_succ]
          refine wpAnyH_take (i := 5) (oi := { dst := some 50, op := Op.fieldAddr 115 (Operand.tmp 49) 2, type := 0, pos := "digest.go:36", after := #[{ on := 4, ground := Ground.data }], guard := none }) (v := ?_) rfl (by kernel_rfl) (by kernel_rfl) (by kernel_rfl) (fun _ _ _ h => h) (Or.inl ⟨by rfl, ?_⟩) (by assumption) ?_
          rotate_left
          · intro w_ hSw
            (try dsimp only at hSw)
            go_simp
            first | done | with_reducible rfl
          try simp only [Act.put, List.setIfInBounds_toArray, List.set_cons_zero, List.set_cons_succ]
          refine wpAnyH_take (i := 8) (oi := { dst := some 53, op := Op.move (Operand.tmp 1), type := 72, pos := "digest.go:36", after := #[], guard := none }) (v := ?_) rfl (by kernel_rfl) (by kernel_rfl) (by kernel_rfl) (fun _ _ _ h => h) (Or.inl ⟨by rfl, ?_⟩) (by assumption) ?_
          rotate_left
          · intro w_ hSw
            (try dsimp only at hSw)
            go_simp
            first | done | with_reducible rfl
          try simp only [Act.put, List.setIfInBounds_toArray, List.set_cons_zero, List.set_cons_succ]
          refine wpAnyH_take (i := 6) (oi := { dst := some 51, op := Op.load 3 (Operand.tmp 50), type := 3, pos := "digest.go:36", after := #[{ on := 5, ground := Ground.data }], guard := none }) (v := ?_) rfl (by kernel_rfl) (by kernel_rfl) (by kernel_rfl) (fun _ _ _ h => h) (Or.inl ⟨by rfl, ?_⟩) (by assumption) ?_
          rotate_left
          · intro w_ hSw
            (try dsimp only at hSw)
            go_simp
            first | done | with_reducible rfl
          try simp only [Act.put, List.setIfInBounds_toArray, List.set_cons_zero, List.set_cons_succ]
          refine wpAnyH_take (i := 7) (oi := { dst := some 52, op := Op.slice 113 (Operand.tmp 47) (some (Operand.tmp 51)) none none, type := 72, pos := "digest.go:36", after := #[{ on := 2, ground := Ground.data }, { on := 6, ground := Ground.data }], guard := none }) (v := ?_) rfl (by kernel_rfl) (by kernel_rfl) (by kernel_rfl) (fun _ _ _ h => h) (Or.inl ⟨by rfl, ?_⟩) (by assumption) ?_
          rotate_left
          · intro w_ hSw
            (try dsimp only at hSw)
            go_simp
            first | done | with_reducible rfl
          try simp only [Act.put, List.setIfInBounds_toArray, List.set_cons_zero, List.set_cons_succ]
          refine wpAnyH_ready (rs := [9]) (by kernel_rfl) (by simp) ?_
          refine AllReadyH.cons (o := { dst := some 54, op := Op.call { callee := Callee.builtin Builtin.copy, args := #[Operand.tmp 52, Operand.tmp 53], argTypes := #[72, 72] }, type := 3, pos := "digest.go:36", after := #[{ on := 7, ground := Ground.data }, { on := 8, ground := Ground.data }], guard := none }) rfl (fun K hK => ?_) AllReadyH.nil
          refine step_copy_part rfl (.tmp 52) (.tmp 53) 72 72 rfl 5 gH (8 + held) (64 - held) (64 - held) ⟨gb, o', none⟩ m cc (hashC st rest held n1) 115 (bytesV ps) rfl rfl Try.underlying72 (by kernel_rfl) HB.out (by rw [bytesV_len, HPL.out, HK.out]) HSRC.out (by rw [bytesV_len, HPL.out, hashC_size]; omega) (bytesV_one ps) ?_
          intro W5 B_ G_
          rw [hashC_copy _ _ _ _ ps (by rw [HPL.out]; exact hkc)] at B_
          rw [show goInt ((bytesV ps).length : Int) = Value.int .i64 (k : Int) by rw [bytesV_len, HPL.out]; rfl]
          have B5 := Lib.hid B_
          have G5 := Lib.hid (show wr.grownBy W5 (some gH) from ⟨G_.os, G_.tape, G_.output, G_.size, G_.block⟩)
          clear B_ G_
          refine hK.out _ _ ?_ (fun hHeld => ?_)
          · exact (B5.out.cell 72).trans (hashC_held _ _ _ _)
          clear hK K
          try simp only [Act.put, List.setIfInBounds_toArray, List.set_cons_zero, List.set_cons_succ]
          refine wpAnyH_take (i := 10) (oi := { dst := some 5, op := Op.assign (Operand.tmp 54), type := 3, pos := "digest.go:36", after := #[{ on := 9, ground := Ground.data }, { on := 9, ground := Ground.chain }, { on := 0, ground := Ground.phase }, { on := 1, ground := Ground.phase }, { on := 2, ground := Ground.phase }, { on := 3, ground := Ground.phase }, { on := 4, ground := Ground.phase }, { on := 5, ground := Ground.phase }, { on := 6, ground := Ground.phase }, { on := 7, ground := Ground.phase }, { on := 8, ground := Ground.phase }, { on := 9, ground := Ground.phase }], guard := none }) (v := ?_) rfl (by kernel_rfl) (by kernel_rfl) (by kernel_rfl) (fun _ _ _ h => h) (Or.inl ⟨by rfl, ?_⟩) (by assumption) ?_
          rotate_left
          · intro w_ hSw
            (try dsimp only at hSw)
            go_simp
            first | done | with_reducible rfl
          try simp only [Act.put, List.setIfInBounds_toArray, List.set_cons_zero, List.set_cons_succ]
          refine wpAnyH_done (by kernel_rfl) ?_ _
          clear ch fh
          have c5 := (B5.out.cell 72).trans (hashC_held _ _ _ _)
          have f5 := B5.out.frozen 72
          have HB6 := Lib.hid (show Blk (W5.setCell ⟨gH, 72, none⟩ (.int .i64 (hk2 : Int))) gH 115 (hashC st (fun j => if held ≤ j ∧ j < held + ps.length then ps.getD (j - held) 0 else rest j) hk2 n1) from by
            have := B5.out.set_ 72 (.int .i64 (hk2 : Int))
            rw [hashC_setHeld] at this
            exact this)
          go_upto_region 9 with fail
          go_cut [1] from 18 to 84 (fun s1 wx => ∃ o2 c2 : Nat, s1 = .slice (some ⟨gb, o2, none⟩) (m - k) c2 ∧ Hid (c2 = c - (q + k) ∧ (0 < m - k → o2 = ob + (q + k))) ∧ wx = (W5.setCell ⟨gH, 72, none⟩ (.int .i64 (hk2 : Int))))
          case first =>
            go_wp2_with fail
            · go_meet
              case rel => exact ⟨o', 0, rfl, Lib.hid ⟨(HC.out.2.2.1 (by assumption)).1, fun h => absurd h (HC.out.2.2.1 (by assumption)).2⟩, rfl⟩
            · go_meet
              case rel => exact ⟨o' + k, cc - k, rfl, Lib.hid ⟨HC.out.2.2.2.1, HC.out.2.2.2.2⟩, rfl⟩
          case rest =>
            obtain ⟨o2, c2, rfl, HO2, rfl⟩ := hcut
            clear c5 f5
            have c6 : (W5.setCell ⟨gH, 72, none⟩ (.int .i64 (hk2 : Int))).cell? ⟨gH, 72, none⟩ = some (.int .i64 (hk2 : Int)) := (HB6.out.cell 72).trans (hashC_held _ _ _ _)
            by_cases hf : hk2 = 64
            · have g9 : ((hk2 : Int) == 64) = true := by rw [hf]; rfl
              have HF := Lib.hid hf
              clear hf
              go_wp2
              refine wp_region_held_drew (S := fun _ => True) (by kernel_rfl) ?_ (fun hHeld => ?_)
              · trivial
              refine wpAnyH_take (i := 0) (oi := { dst := some 71, op := Op.move (Operand.tmp 0), type := 93, pos := "digest.go:40", after := #[], guard := none }) (v := ?_) rfl (by kernel_rfl) (by kernel_rfl) (by kernel_rfl) (fun _ _ _ h => h) (Or.inl ⟨by rfl, ?_⟩) (by assumption) ?_
              rotate_left
              · intro w_ hSw
                (try dsimp only at hSw)
                go_simp
                first | done | with_reducible rfl
              try simp only [Act.put, List.setIfInBounds_toArray, List.set_cons_zero, List.set_cons_succ]
              refine wpAnyH_take (i := 1) (oi := { dst := some 72, op := Op.move (Operand.tmp 0), type := 93, pos := "digest.go:40", after := #[], guard := none }) (v := ?_) rfl (by kernel_rfl) (by kernel_rfl) (by kernel_rfl) (fun _ _ _ h => h) (Or.inl ⟨by rfl, ?_⟩) (by assumption) ?_
              rotate_left
              · intro w_ hSw
                (try dsimp only at hSw)
                go_simp
                first | done | with_reducible rfl
              try simp only [Act.put, List.setIfInBounds_toArray, List.set_cons_zero, List.set_cons_succ]
              refine wpAnyH_take (i := 2) (oi := { dst := some 73, op := Op.nilCheck (Operand.tmp 72), type := 0, pos := "digest.go:40", after := #[{ on := 1, ground := Ground.data }], guard := none }) (v := ?_) rfl (by kernel_rfl) (by kernel_rfl) (by kernel_rfl) (fun _ _ _ h => h) (Or.inl ⟨by rfl, ?_⟩) (by assumption) ?_
              rotate_left
              · intro w_ hSw
                (try dsimp only at hSw)
                go_simp
                first | done | with_reducible rfl
              try simp only [Act.put, List.setIfInBounds_toArray, List.set_cons_zero, List.set_cons_succ]
              refine wpAnyH_take (i := 3) (oi := { dst := some 74, op := Op.fieldAddr 115 (Operand.tmp 73) 0, type := 0, pos := "digest.go:40", after := #[{ on := 2, ground := Ground.data }], guard := none }) (v := ?_) rfl (by kernel_rfl) (by kernel_rfl) (by kernel_rfl) (fun _ _ _ h => h) (Or.inl ⟨by rfl, ?_⟩) (by assumption) ?_
              rotate_left
              · intro w_ hSw
                (try dsimp only at hSw)
                go_simp
                first | done | with_reducible rfl
              try simp only [Act.put, List.setIfInBounds_toArray, List.set_cons_zero, List.set_cons_succ]
              refine wpAnyH_take (i := 5) (oi := { dst := some 76, op := Op.move (Operand.tmp 0), type := 93, pos := "digest.go:40", after := #[], guard := none }) (v := ?_) rfl (by kernel_rfl) (by kernel_rfl) (by kernel_rfl) (fun _ _ _ h => h) (Or.inl ⟨by rfl, ?_⟩) (by assumption) ?_
              rotate_left
              · intro w_ hSw
                (try dsimp only at hSw)
                go_simp
                first | done | with_reducible rfl
              try simp only [Act.put, List.setIfInBounds_toArray, List.set_cons_zero, List.set_cons_succ]
              refine wpAnyH_take (i := 6) (oi := { dst := some 77, op := Op.nilCheck (Operand.tmp 76), type := 0, pos := "digest.go:40", after := #[{ on := 5, ground := Ground.data }], guard := none }) (v := ?_) rfl (by kernel_rfl) (by kernel_rfl) (by kernel_rfl) (fun _ _ _ h => h) (Or.inl ⟨by rfl, ?_⟩) (by assumption) ?_
              rotate_left
              · intro w_ hSw
                (try dsimp only at hSw)
                go_simp
                first | done | with_reducible rfl
              try simp only [Act.put, List.setIfInBounds_toArray, List.set_cons_zero, List.set_cons_succ]
              refine wpAnyH_take (i := 7) (oi := { dst := some 78, op := Op.fieldAddr 115 (Operand.tmp 77) 1, type := 0, pos := "digest.go:40", after := #[{ on := 6, ground := Ground.data }], guard := none }) (v := ?_) rfl (by kernel_rfl) (by kernel_rfl) (by kernel_rfl) (fun _ _ _ h => h) (Or.inl ⟨by rfl, ?_⟩) (by assumption) ?_
              rotate_left
              · intro w_ hSw
                (try dsimp only at hSw)
                go_simp
                first | done | with_reducible rfl
              try simp only [Act.put, List.setIfInBounds_toArray, List.set_cons_zero, List.set_cons_succ]
              refine wpAnyH_ready (rs := [4]) (by kernel_rfl) (by simp) ?_
              refine AllReadyH.cons (o := { dst := some 75, op := Op.load 99 (Operand.tmp 74), type := 99, pos := "digest.go:40", after := #[{ on := 3, ground := Ground.data }], guard := none }) rfl (fun K hK => ?_) AllReadyH.nil
              refine step_load_part rfl 99 _ rfl gH 0 rfl (arrW 8 st) _ _ (hash_state HB6.out) Try.underlying99 (by rw [arrW_size]; exact s8) ?_
              refine hK.out _ _ ?_ (fun hHeld => ?_)
              · trivial
              clear hK K
              try simp only [Act.put, List.setIfInBounds_toArray, List.set_cons_zero, List.set_cons_succ]
              refine wpAnyH_ready (rs := [8]) (by kernel_rfl) (by simp) ?_
              refine AllReadyH.cons (o := { dst := some 79, op := Op.call { callee := Callee.value (Operand.func 90), args := #[Operand.tmp 75, Operand.tmp 78], argTypes := #[99, 134] }, type := 99, pos := "digest.go:40", after := #[{ on := 4, ground := Ground.data }, { on := 7, ground := Ground.data }], guard := none }) rfl (fun K hK => ?_) AllReadyH.nil
              go_simp
              refine (step_any st ⟨gH, 8, none⟩ (fun j => if held ≤ j ∧ j < held + ps.length then ps.getD (j - held) 0 else rest j) (World.drew (W5.setCell ⟨gH, 72, none⟩ (.int .i64 (hk2 : Int)))) (hash_rest HB6.out)).mono ?_
              rintro e W7 ⟨rfl, L_⟩
              have L7 := Lib.hid (show Below (W5.setCell ⟨gH, 72, none⟩ (.int .i64 (hk2 : Int))).heap.size (W5.setCell ⟨gH, 72, none⟩ (.int .i64 (hk2 : Int))) W7 from ⟨L_.os, L_.tape, L_.output, L_.size, L_.block⟩)
              clear L_
              have HB7 := Lib.hid (HB6.out.below L7.out HB6.out.lt)
              go_wp2_with fail
              refine hK.out _ _ ?_ (fun hHeld => ?_)
              · trivial
              clear hK K
              try simp only [Act.put, List.setIfInBounds_toArray, List.set_cons_zero, List.set_cons_succ]
              refine wpAnyH_take (i := 9) (oi := { dst := some 80, op := Op.nilCheck (Operand.tmp 71), type := 0, pos := "digest.go:40", after := #[{ on := 0, ground := Ground.data }, { on := 0, ground := Ground.phase }, { on := 1, ground := Ground.phase }, { on := 2, ground := Ground.phase }, { on := 3, ground := Ground.phase }, { on := 4, ground := Ground.phase }, { on := 5, ground := Ground.phase }, { on := 6, ground := Ground.phase }, { on := 7, ground := Ground.phase }, { on := 8, ground := Ground.phase }], guard := none }) (v := ?_) rfl (by kernel_rfl) (by kernel_rfl) (by kernel_rfl) (fun _ _ _ h => h) (Or.inl ⟨by rfl, ?_⟩) (by assumption) ?_
              rotate_left
              · intro w_ hSw
                (try dsimp only at hSw)
                go_simp
                first | done | with_reducible rfl
              try simp only [Act.put, List.setIfInBounds_toArray, List.set_cons_zero, List.set_cons_succ]
              refine wpAnyH_take (i := 10) (oi := { dst := some 81, op := Op.fieldAddr 115 (Operand.tmp 80) 0, type := 0, pos := "digest.go:40", after := #[{ on := 9, ground := Ground.data }, { on := 0, ground := Ground.phase }, { on := 1, ground := Ground.phase }, { on := 2, ground := Ground.phase }, { on := 3, ground := Ground.phase }, { on := 4, ground := Ground.phase }, { on := 5, ground := Ground.phase }, { on := 6, ground := Ground.phase }, { on := 7, ground := Ground.phase }, { on := 8, ground := Ground.phase }], guard := none }) (v := ?_) rfl (by kernel_rfl) (by kernel_rfl) (by kernel_rfl) (fun _ _ _ h => h) (Or.inl ⟨by rfl, ?_⟩) (by assumption) ?_
              rotate_left
              · intro w_ hSw
                (try dsimp only at hSw)
                go_simp
                first | done | with_reducible rfl
              try simp only [Act.put, List.setIfInBounds_toArray, List.set_cons_zero, List.set_cons_succ]
              refine wpAnyH_ready (rs := [11]) (by kernel_rfl) (by simp) ?_
              refine AllReadyH.cons (o := { dst := none, op := Op.store 99 (Operand.tmp 81) (Operand.tmp 79), type := 0, pos := "digest.go:40", after := #[{ on := 10, ground := Ground.data }, { on := 8, ground := Ground.data }, { on := 8, ground := Ground.chain }, { on := 0, ground := Ground.phase }, { on := 1, ground := Ground.phase }, { on := 2, ground := Ground.phase }, { on := 3, ground := Ground.phase }, { on := 4, ground := Ground.phase }, { on := 5, ground := Ground.phase }, { on := 6, ground := Ground.phase }, { on := 7, ground := Ground.phase }, { on := 8, ground := Ground.phase }], guard := none }) rfl (fun K hK => ?_) AllReadyH.nil
              refine step_store_part rfl 99 _ _ rfl gH 0 (arrW 8 (madeF st (fun j => if held ≤ j ∧ j < held + ps.length then ps.getD (j - held) 0 else rest j))) rfl rfl 115 _ HB7.out (by rw [arrW_size, hashC_size]; omega) (by rw [arrW_size]; exact s8) (arrW_one _ _) ?_
              intro W8 B_ G_
              rw [hashC_state] at B_
              have B8 := Lib.hid B_
              have G8 := Lib.hid (show W7.grownBy W8 (some gH) from ⟨G_.os, G_.tape, G_.output, G_.size, G_.block⟩)
              clear B_ G_
              refine hK.out _ _ ?_ (fun hHeld => ?_)
              · trivial
              clear hK K
              refine wpAnyH_done (by kernel_rfl) ?_ _
              clear c6
              have c8 := (B8.out.cell 72).trans (hashC_held _ _ _ _)
              have f8 := B8.out.frozen 72
              have HB9 := Lib.hid (show Blk (W8.setCell ⟨gH, 72, none⟩ (.int .i64 0)) gH 115 (hashC (madeF st (fun j => if held ≤ j ∧ j < held + ps.length then ps.getD (j - held) 0 else rest j)) (fun j => if held ≤ j ∧ j < held + ps.length then ps.getD (j - held) 0 else rest j) 0 n1) from by
                have := B8.out.set_ 72 (.int .i64 ((0 : Nat) : Int))
                rw [hashC_setHeld] at this
                exact this)
              have HA9 := Lib.hid (show Abs (madeF st (fun j => if held ≤ j ∧ j < held + ps.length then ps.getD (j - held) 0 else rest j)) (fun j => if held ≤ j ∧ j < held + ps.length then ps.getD (j - held) 0 else rest j) 0 (l0 ++ (List.range (q + k)).map pf) from by
                have := HA.out.full ps (by rw [HPL.out, ← HH2.out]; exact HF.out) (fun j => if held ≤ j ∧ j < held + ps.length then ps.getD (j - held) 0 else rest j)
                rw [List.append_assoc, HPS.out, range_app, ← HPS.out] at this
                exact this)
              have HG9 := Lib.hid (grown_step (grown_step (grown_step (grown_step (grown_step HG.out G5.out (.inl rfl)) (grown_set' W5 gH 72 (.int .i64 (hk2 : Int))) (.inl rfl)) (grown_of_bl L7.out (some gH)) (.inl rfl)) G8.out (.inl rfl)) (grown_set' W8 gH 72 (.int .i64 0)) (.inl rfl))
              clear HA HG G5 L7 G8 HB6 HB7 B8
              go_wp2
              go_roundg (L - (q + k))
              case measure => have := HC.out; omega
              case rel => exact ⟨q + k, m - k, c2, o2, 0, _, _, HC.out.1, rfl, rfl, Lib.hid ⟨HC.out.2.1, HO2.out⟩, HA9, HB9, HG9⟩
            · have g9 : ((hk2 : Int) == 64) = false := by simp; omega
              have HA9 := Lib.hid (show Abs st (fun j => if held ≤ j ∧ j < held + ps.length then ps.getD (j - held) 0 else rest j) hk2 (l0 ++ (List.range (q + k)).map pf) from by
                have hlt : held + ps.length < 64 := by rw [HPL.out]; have := HH2.out; omega
                have := HA.out.part ps hlt
                rw [List.append_assoc, HPS.out, range_app, ← HPS.out, HPL.out, ← HH2.out] at this
                rw [HPL.out, ← HH2.out]
                exact this)
              have HG9 := Lib.hid (grown_step (grown_step HG.out G5.out (.inl rfl)) (grown_set' W5 gH 72 (.int .i64 (hk2 : Int))) (.inl rfl))
              clear hf HA HG G5
              go_wp2
              go_roundg (L - (q + k))
              case measure => have := HC.out; omega
              case rel => exact ⟨q + k, m - k, c2, o2, hk2, st, _, HC.out.1, rfl, rfl, Lib.hid ⟨HC.out.2.1, HO2.out⟩, HA9, HB6, HG9⟩
    · obtain rfl : m = 0 := by omega
      have HE := Lib.hid (show q = L from by omega)
      clear hmv hm
      go_wp2
      go_end0
      refine ⟨rfl, ⟨st, rest, held, ?_, HB.out⟩, HG.out⟩
      rw [← HE.out]
      exact HA.out
end Go.Proofs.Ytpklkjekkbpeoaa
