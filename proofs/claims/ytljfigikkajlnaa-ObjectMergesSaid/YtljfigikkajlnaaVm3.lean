/- DERIVED. The bytes of a text in memory of the call's own (the row bears the conversion's mark), and what is put behind them. (The lemmas 'run_storeCells_atM', 'run_append_roomM', 'append_ownM' are the library's own on rows with a frozen head, turned to this claim.) What stands behind a text of so many bytes: the program's Fill. -/
import Derived.Test.YtljfigikkajlnaaVm1
import Derived.Test.YtljfigikkajlnaaVm2
import Derived.Laws.IdiomStrings
import Derived.BigRegion
namespace Go.Proofs.Ytljfigikkajlnaa
open Go.RowKit
set_option linter.unusedVariables false
set_option linter.unusedSimpArgs false
def bytesV (l : List UInt8) : List Value := l.map fun x => .int .u8 (bv x)
theorem bytesV_len (l : List UInt8) : (bytesV l).length = l.length := by simp [bytesV]
theorem bytesV_one (l : List UInt8) : ∀ v ∈ bytesV l, v.oneCell' = true := by
 intro v hv
 simp only [bytesV, List.mem_map] at hv
 obtain ⟨_, _, rfl⟩ := hv
 rfl
theorem bytesV_app (l m : List UInt8) : bytesV (l ++ m) = bytesV l ++ bytesV m := by simp [bytesV]
theorem run_storeCells_atM (P : Program) (g o : Nat) (t : TypeId) (fz : Nat × Nat) : ∀ (vs : List Value) (i : Nat) (cur : Array Value) (w : World), w.heap[g]? = some (.cells cur t fz) → (fz.2 = 0 ∨ cur.size ≤ fz.1) → o + i + vs.length ≤ cur.size → (∀ v ∈ vs, v.oneCell' = true) →
 (storeCells ⟨g, o, none⟩ vs i).run P w = .ok () (w.setRow g (cur.toList.take (o + i) ++ vs ++ cur.toList.drop (o + i + vs.length)).toArray)
 | [], i, cur, w, hg, _, _, _ => by
  simp only [storeCells, List.append_nil, List.length_nil, Nat.add_zero, List.take_append_drop, Array.toArray_toList]
  rw [setRow_self w g cur t fz hg]
  rfl
 | v :: rest, i, cur, w, hg, hfz, hl, h1 => by
  have hi : o + i < cur.size := by simp at hl; omega
  have hadd : (⟨g, o, none⟩ : Addr).add i = ⟨g, o + i, none⟩ := by unfold Addr.add; split <;> simp_all
  have hcell : w.cell? ⟨g, o + i, none⟩ = some cur[o + i] := by simp [World.cell?, hg, hi]
  have hfro : w.frozen? ⟨g, o + i, none⟩ = false := by
   obtain ⟨lo, hi'⟩ := fz
   simp only [World.frozen?, hg, Bool.and_eq_false_iff, decide_eq_false_iff_not]
   simp only at hfz
   rcases hfz with h | h
   · right; omega
   · left; omega
  have hst : (store ((⟨g, o, none⟩ : Addr).add i) v).run P w = .ok () (w.setRow g (cur.setIfInBounds (o + i) v)) := by
   rw [hadd, run_store P w _ v _ (h1 v (by simp)), hcell]
   simp [hfro, setCell_eq_setRow w g (o + i) cur t fz v hg]
  have ih := run_storeCells_atM P g o t fz rest (i + 1) (cur.setIfInBounds (o + i) v) (w.setRow g (cur.setIfInBounds (o + i) v)) (setRow_heap w g cur _ t _ hg) (by simpa using hfz) (by simp at hl ⊢; omega) (fun x hx => h1 x (by simp [hx]))
  simp only [storeCells, Sem.run_bind, hst, Result.andThen_ok, ih, setRow_setRow]
  congr 3
  have e := list_seg_step cur.toList (o + i) v rest (by simp at hl ⊢; omega)
  simpa [Array.toList_setIfInBounds, Nat.add_assoc] using e
/-- Bytes in a row of the call's own, which may bear a conversion's mark. -/
def OwnM (w : World) (B : Nat) (v : Value) (l : List UInt8) : Prop :=
 ∃ g cap cur fz, v = .slice (some ⟨g, 0, none⟩) l.length cap ∧ B ≤ g ∧ w.heap[g]? = some (.cells cur 5 fz) ∧ (fz.2 = 0 ∨ cur.size ≤ fz.1) ∧ l.length ≤ cap ∧ cap ≤ maxLen ∧ cur.size = cap ∧ cur.toList.take l.length = bytesV l
theorem OwnM.lt {w : World} {B : Nat} {v : Value} {l : List UInt8} (h : OwnM w B v l) : ∀ k, v.ownBlock = some k → B ≤ k ∧ k < w.heap.size := by
 obtain ⟨g, cap, cur, fz, rfl, hb, hg, _⟩ := h
 intro k hk
 have : g = k := by simpa [Value.ownBlock] using hk
 subst this
 exact ⟨hb, (Array.getElem?_eq_some_iff.1 hg).1⟩
theorem OwnM.kept {w w' : World} {B : Nat} {v : Value} {l : List UInt8} {row : Option Nat} (h : OwnM w B v l) (hg : w.grownBy w' row) (hne : v.ownBlock ≠ row) : OwnM w' B v l := by
 obtain ⟨g, cap, cur, fz, rfl, hb, hh, rest⟩ := h
 have hlt := (Array.getElem?_eq_some_iff.1 hh).1
 exact ⟨g, cap, cur, fz, rfl, hb, (hg.block g hlt (fun e => hne (by simp [Value.ownBlock, e]))).trans hh, rest⟩
theorem OwnM.below {w w' : World} {B : Nat} {v : Value} {l : List UInt8} (h : OwnM w B v l) (hb : Below w.heap.size w w') : OwnM w' B v l := by
 obtain ⟨g, cap, cur, fz, rfl, hB, hh, rest⟩ := h
 exact ⟨g, cap, cur, fz, rfl, hB, (hb.block g (Array.getElem?_eq_some_iff.1 hh).1).trans hh, rest⟩
theorem OwnM.form {w : World} {B : Nat} {v : Value} {l : List UInt8} (h : OwnM w B v l) : ∃ g cap, v = .slice (some ⟨g, 0, none⟩) l.length cap ∧ B ≤ g ∧ l.length ≤ cap ∧ cap ≤ maxLen ∧ ∀ j, j < l.length → w.cell? ⟨g, j, none⟩ = some (.int .u8 (bv (l.getD j 0))) := by
 obtain ⟨g, cap, cur, fz, rfl, hB, hh, hf, h1, h2, h3, h4⟩ := h
 refine ⟨g, cap, rfl, hB, h1, h2, fun j hj => ?_⟩
 rw [cell_of_row w g j cur 5 fz hh]
 have h5 := congrArg (fun z => z[j]?) h4
 simp only [List.getElem?_take, hj, if_true, bytesV, List.getElem?_map, Array.getElem?_toList] at h5
 rw [h5, List.getElem?_eq_getElem hj, List.getD_eq_getElem?_getD, List.getElem?_eq_getElem hj]
 rfl
section
variable {P : Program} (w : World)
theorem run_append_roomM (t ty e : TypeId) (i : TypeInfo) (ht : P.underlying t = some (.slice e)) (hi : P.info? e = some i)
 (g sLen sCap : Nat) (cur : Array Value) (fz : Nat × Nat) (hg : w.heap[g]? = some (.cells cur e fz)) (hfz : fz.2 = 0 ∨ cur.size ≤ fz.1)
 (a : Addr) (m c : Nat) (news : List Value) (hl : news.length = m * i.size) (hnews : ∀ j u, news[j]? = some u → w.cell? (a.add j) = some u) (h1 : ∀ u ∈ news, u.oneCell' = true)
 (hroom : sLen + m ≤ sCap) (hfit : sLen * i.size + news.length ≤ cur.size) :
 (Builtin.append_ #[t, t] ty #[.slice (some ⟨g, 0, none⟩) sLen sCap, .slice (some a) m c]).run P w =
   .ok (.slice (some ⟨g, 0, none⟩) (sLen + m) sCap) (w.setRow g (cur.toList.take (sLen * i.size) ++ news ++ cur.toList.drop (sLen * i.size + news.length)).toArray) := by
 have hf := run_firstCells_some (P := P) w i.size m a m c news hl hnews
 have hst := run_storeCells_atM P g (sLen * i.size) e fz news 0 cur w hg hfz (by simpa using hfit) h1
 simp only [Nat.add_zero] at hst
 simp [Builtin.append_, run_underlying ht, sizeOf, typeInfo, hi, Builtin.lenOf, hroom, hf, Addr.add_lit, hst]
end
section
variable {ops : Array Oper} {rest : List Oper} {o : Oper} {a : Act} {w : World} {Q : Exit → Act → World → Prop}
/-- A text's bytes, as '[]byte(s)' lays them. -/
theorem conv_ownM (hgd : o.guard = none) (src dst : TypeId) (x : Operand) (ho : o.op = .convert src dst x) (s : ByteArray) (hx : a.eval x = .string s) (hs : Try.prog.underlying src = some .string) (hd : Try.prog.underlying dst = some (.slice 5)) (he : Try.prog.underlying 5 = some (.int .u8)) (hlen : s.size ≤ 140737488355328)
 (h : ∀ v w', OwnM w' w.heap.size v s.data.toList → Below w.heap.size w w' → wpList Try.prog ops Q rest (a.put o.dst v) w') : wpList Try.prog ops Q (o :: rest) a w := by
 refine wpList_plain hgd fun K hK => ?_
 have hr := run_bytes_of_string (P := Try.prog) w src dst 5 s hs hd he
 have hge := grownCap_ge w s.size 0 5
 have hle : grownCap w s.size 0 5 ≤ maxLen := grownCap_le_maxLen w s.size 0 5 (by simp only [maxLen]; omega)
 have hsz : (bytesRow s (grownCap w s.size 0 5)).size = grownCap w s.size 0 5 := by
  have : s.data.size = s.size := rfl
  simp [bytesRow, this]; omega
 unfold Oper.wp execOp
 simp only [ho, hx, Sem.run_bind, hr, Result.andThen_ok]
 refine hK _ _ (h _ _ ⟨w.heap.size, _, _, _, rfl, Nat.le_refl _, heap_alloc_new w.drew _, .inr (Nat.le_refl _), ?_, hle, hsz, ?_⟩ ((bl_drew (Below.refl w.heap.size w)).alloc (Nat.le_refl _) _))
 · exact hge
 · have : s.data.size = s.size := rfl
   simp only [bytesRow, Array.toList_append, Array.toList_map]
   rw [List.take_left' (by simp)]
   rfl
end
end Go.Proofs.Ytljfigikkajlnaa
namespace Go.Proofs.Ytljfigikkajlnaa
open Go.RowKit
set_option linter.unusedVariables false
set_option linter.unusedSimpArgs false
attribute [local irreducible] arrB wpList Code.wp
theorem made_zeros {w : World} {B g n : Nat} (h : w.ownsRow B 5 1 (.slice (some ⟨g, 0, none⟩) n n) n (madeCells (Value.int .u8 0).cells (n * 1)).toList) : B ≤ g ∧ Blk w g 5 (arrB n fun _ => 0) := by
 rcases h.2 with ⟨hv, _⟩ | ⟨g', cap, cur, hv, hb, hg, h1, h2, h3, h4⟩
 · cases hv
 · injection hv with e1 e2 e3
   injection e1 with e1
   injection e1 with e1
   subst e1 e3
   refine ⟨hb, ?_⟩
   have hc : cur = arrB n fun _ => 0 := by
    have h5 : cur.toList.length ≤ n * 1 := by rw [Array.length_toList, h3]; exact Nat.le_refl _
    rw [List.take_of_length_le h5] at h4
    apply Array.ext_getElem?
    intro j
    have h6 := congrArg (fun z => z[j]?) h4
    simp only [Array.getElem?_toList] at h6
    rw [h6]
    by_cases hj : j < n
    · rw [arrB_get n (fun _ => 0) hj]
      simp [madeCells, hj, Value.cells, Nat.mod_one]
      rfl
    · rw [Array.getElem?_eq_none (show (arrB n fun _ => 0).size ≤ j by rw [arrB_size]; omega)]
      simp [madeCells]
      omega
   rw [← hc]
   exact hg
theorem long_idx (n : Nat) (hn : n < 9223372036854775808) : ∃ a b : Nat, IntKind.u64.wrap ((n : Int) + 8) = (a : Int) ∧ Int.tmod (a : Int) 64 = (b : Int) ∧ IntKind.i64.wrap (b : Int) = (b : Int) ∧ IntKind.i64.wrap (72 - (b : Int)) = (((fillL n).length : Nat) : Int) := by
 refine ⟨n + 8, (n + 8) % 64, ?_, ?_, ?_, ?_⟩
 · have := u64_small (n := n + 8) (by omega)
   rw [← this]; congr 1
 · rw [Int.tmod_eq_emod_of_nonneg (by omega)]; omega
 · rw [IntWalk.i64_in _ (by omega)]
 · rw [fillL_length, ← zeros_long, IntWalk.i64_in _ (by omega)]; omega
theorem back_idx (v L i : Nat) (hi : i < 8) (hL : 9 ≤ L) (hL2 : L ≤ 72) : ∃ k a x : Nat, IntKind.i64.wrap (8 * (i : Int)) = (k : Int) ∧ IntKind.i64.wrap ((L : Int) - 1) = (a : Int) ∧ IntKind.i64.wrap ((a : Int) - (i : Int)) = (x : Int) ∧ ((0 : Int) ≤ (k : Int) ∧ (k : Int) ≤ 64 ∧ (0 : Int) ≤ (x : Int) ∧ (x : Int) < (L : Int)) ∧
 IntKind.u8.wrap ((v : Int) / 2 ^ k) = bv (beB v (7 - i)) ∧ Hid (x = L - 1 - i ∧ x < L) := by
 refine ⟨8 * i, L - 1, L - 1 - i, ?_, ?_, ?_, ⟨by omega, by omega, by omega, by omega⟩, ?_, rfl, by omega⟩
 · rw [IntWalk.i64_in _ (by omega)]; omega
 · rw [IntWalk.i64_in _ (by omega)]; omega
 · rw [IntWalk.i64_in _ (by omega)]; omega
 · have h2 : ((v : Int) / 2 ^ (8 * i)) = ((v / 2 ^ (8 * i) : Nat) : Int) := by rw [Int.natCast_ediv, Int.natCast_pow]; rfl
   rw [h2, bv, beB, UInt8.toNat_ofNat', show 56 - 8 * (7 - i) = 8 * i by omega]
   simp only [IntKind.wrap, IntKind.bits, IntKind.signed, Bool.false_and, Bool.false_eq_true, if_false]
   omega
/-- The bytes so far. -/
def fillF (n i : Nat) : Nat → UInt8 := fun j => if j = 0 then 128 else if (fillL n).length - i ≤ j then beB (8 * n % 18446744073709551616) (j - ((fillL n).length - 8)) else 0
theorem fillF_all (n j : Nat) (hj : j < (fillL n).length) : fillF n 8 j = (fillL n).getD j 0 := by
 have hl := fillL_length n
 unfold fillF
 by_cases h0 : j = 0
 · subst h0; rfl
 · rw [if_neg h0]
   have h1 : (fillL n).getD j 0 = (List.replicate (zeros n) 0 ++ (List.range 8).map (beB (8 * n % 18446744073709551616))).getD (j - 1) 0 := by
    obtain ⟨k, rfl⟩ : ∃ k, j = k + 1 := ⟨j - 1, by omega⟩
    rfl
   rw [h1]
   by_cases h2 : (fillL n).length - 8 ≤ j
   · rw [if_pos h2, List.getD_eq_getElem?_getD, List.getElem?_append_right (by simp; omega)]
     simp only [List.length_replicate]
     rw [List.getElem?_map, List.getElem?_range (by omega)]
     simp only [Option.map_some, Option.getD_some]
     congr 1
     omega
   · rw [if_neg h2, List.getD_eq_getElem?_getD, List.getElem?_append_left (by simp; omega), List.getElem?_replicate]
     split <;> rfl
theorem fillF_next (n i : Nat) (hi : i < 8) : arrB (fillL n).length (fun j => if j = (fillL n).length - 1 - i then beB (8 * n % 18446744073709551616) (7 - i) else fillF n i j) = arrB (fillL n).length (fillF n (i + 1)) := by
 have hl := fillL_length n
 refine arrB_congr _ _ _ fun j hj => ?_
 by_cases h : j = (fillL n).length - 1 - i
 · subst h
   rw [if_pos rfl, fillF, if_neg (by omega), if_pos (by omega)]
   congr 1
   omega
 · rw [if_neg h]
   unfold fillF
   by_cases h0 : j = 0
   · rw [if_pos h0, if_pos h0]
   · rw [if_neg h0, if_neg h0]
     by_cases h2 : (fillL n).length - i ≤ j
     · rw [if_pos h2, if_pos (by omega)]
     · rw [if_neg h2, if_neg (by omega)]
set_option maxRecDepth 100000 in
set_option maxHeartbeats 6400000 in
theorem fill_any (n : Nat) (hn : n < 9223372036854775808) (w : World) :
 Calls Try.prog 128 #[.int .u64 n] w fun e w' => ∃ g, e = .returned (.slice (some ⟨g, 0, none⟩) (fillL n).length (fillL n).length) ∧ w.heap.size ≤ g ∧ Blk w' g 5 (arrB (fillL n).length fun j => (fillL n).getD j 0) ∧ Below w.heap.size w w' := by
 obtain ⟨i0, hi0, hz0, hz1, hz2⟩ := info_parts byte_info
 obtain ⟨a, b, e0, e1, e2, e3⟩ := long_idx n hn
 obtain ⟨L, hL⟩ : ∃ L, L = (fillL n).length := ⟨_, rfl⟩
 have hL9 : 9 ≤ L ∧ L ≤ 72 := by rw [hL, fillL_length]; have := zeros_lt n; omega
 have hLa := hL9.1
 have hLb := hL9.2
 rw [← hL] at e3 ⊢
 have HLL := Lib.hid hL
 have HN := Lib.hid hn
 clear hL hL9 hn
 have l0 : (0 : Int) < (L : Int) := by omega
 go_enter Try.func128, Try.ntmps128
 go_wp2_with (refine wpList_make_full w rfl _ _ 130 rfl w.heap.size 5 i0 _ 1 Try.underlying130 hi0 hz0 hz1 .i64 .i64 (L : Int) (L : Int) L rfl rfl rfl rfl (by rw [hz2]; omega) (by simp only [maxLen]; omega) (Nat.le_refl _) ?_; intro W1 O_ G_; obtain ⟨-, B_⟩ := made_zeros O_; have B1 := Lib.hid B_; have G1 := Lib.hid G_; clear O_ G_ B_; have c0 := (B1.out.cell 0).trans (arrB_get L (fun _ => 0) (by omega)); have f0 := B1.out.frozen 0)
 have HB2 := Lib.hid (show Blk (W1.setCell ⟨w.heap.size, 0, none⟩ (.int .u8 (bv 128))) w.heap.size 5 (arrB L (fillF n 0)) from by
  have := B1.out.set_ 0 (.int .u8 (bv 128))
  rw [arrB_set] at this
  rw [arrB_congr L (fillF n 0) (fun j => if j = 0 then 128 else 0) (fun j hj => by
   unfold fillF
   rw [← HLL.out, Nat.sub_zero]
   by_cases h : j = 0
   · rw [if_pos h, if_pos h]
   · rw [if_neg h, if_neg h, if_neg (by omega)])]
  exact this)
 have HG2 := Lib.hid (show w.grownBy (W1.setCell ⟨w.heap.size, 0, none⟩ (.int .u8 (bv 128))) none from
  ⟨G1.out.os, G1.out.tape, G1.out.output, by have := G1.out.size; simpa [World.setCell] using this, fun k hk _ => (Below.heap_setCell _ _ _ _ (by show k ≠ w.heap.size; omega)).trans (G1.out.block k hk (by simp))⟩)
 clear B1 G1 c0 f0
 obtain ⟨V, hV⟩ : ∃ V, V = 8 * n % 18446744073709551616 := ⟨_, rfl⟩
 have ev : IntKind.u64.wrap (8 * (n : Int)) = (V : Int) := by rw [hV, ← u64_mod]; rfl
 have HV := Lib.hid hV
 clear hV
 go_loopg [15] 8 (fun gk s15 wx => ∃ i : Nat, i ≤ 8 ∧ gk = 8 - i ∧ s15 = .int .i64 i ∧ Hid (Blk wx w.heap.size 5 (arrB L (fillF n i))) ∧ Hid (Below w.heap.size w wx))
 case atStart => exact ⟨0, by omega, rfl, rfl, HB2, Lib.hid (bl_of_grown (Below.refl _ _) HG2.out (fun b hb => by cases hb))⟩
 case round =>
  clear HB2 HG2
  obtain ⟨i, hi, rfl, rfl, hB, hL⟩ := hrel
  by_cases hlt : i < 8
  · have i0 : (0 : Int) ≤ (i : Int) := by omega
    have i1 : (i : Int) < 8 := by omega
    obtain ⟨k, a', x, f0, f1, f2, ⟨g0, g1, g2, g3⟩, f4, HX⟩ := back_idx V L i hlt hLa hLb
    have cb := (hB.out.cell x).trans (arrB_get L _ HX.out.2)
    have fb := hB.out.frozen x
    have HB9 := Lib.hid (show Blk (wr.setCell ⟨w.heap.size, x, none⟩ (.int .u8 (bv (beB V (7 - i))))) w.heap.size 5 (arrB L (fillF n (i + 1))) from by
     have := hB.out.set_ x (.int .u8 (bv (beB V (7 - i))))
     rw [arrB_set, HX.out.1, HV.out, HLL.out, fillF_next n i hlt] at this
     rw [HX.out.1, HV.out, HLL.out]
     exact this)
    go_wp2
    go_roundg (8 - (i + 1))
    case measure => omega
    case rel => exact ⟨i + 1, by omega, rfl, by go_num, HB9, Lib.hid (bl_of_grown hL.out (grown_set' _ _ _ _) (fun b hb => by injection hb with hb; omega))⟩
  · obtain rfl : i = 8 := by omega
    have HE := Lib.hid (show arrB L (fillF n 8) = arrB L fun j => (fillL n).getD j 0 from by
     rw [HLL.out]
     exact arrB_congr _ _ _ (fun j hj => fillF_all n j hj))
    rw [HE.out] at hB
    go_wp2
    go_ret
    exact ⟨_, rfl, Nat.le_refl _, hB.out, hL.out⟩
end Go.Proofs.Ytljfigikkajlnaa
