/- DERIVED. The bytes of a text in memory of the call's own (the row bears the conversion's mark), and what is put behind them. (The lemmas 'run_storeCells_atM', 'run_append_roomM', 'append_ownM' are the library's own on rows with a frozen head, turned to this claim.) -/
import Derived.Test.YtpklkjekkbpeoaaDigFill
import Derived.Laws.IdiomStrings
namespace Go.Proofs.Ytpklkjekkbpeoaa
open Go.RowKit
set_option linter.unusedVariables false
set_option linter.unusedSimpArgs false

def bytesV (l : List UInt8) : List Value := l.map fun x => .int .u8 (bv x)
theorem bytesV_len (l : List UInt8) : (bytesV l).length = l.length := by simp [bytesV]
theorem bytesV_one (l : List UInt8) : ∀ v ∈ bytesV l, v.oneCell' = true := by
  intro v hv
  simp only [bytesV, List.mem_map] at hv
  obtain ⟨_, _, rfl⟩ := hv
  rfl
theorem bytesV_app (l m : List UInt8) : bytesV (l ++ m) = bytesV l ++ bytesV m := by simp [bytesV]
theorem bytesV_cs (l : List UInt8) : GR.cs bytK l = bytesV l := by
  induction l with
  | nil => rfl
  | cons x l ih => rw [GR.cs_cons, ih]; rfl
theorem run_storeCells_atM (P : Program) (g o : Nat) (t : TypeId) (fz : Nat × Nat) : ∀ (vs : List Value) (i : Nat) (cur : Array Value) (w : World), w.heap[g]? = some (.cells cur t fz) → (fz.2 = 0 ∨ cur.size ≤ fz.1) → o + i + vs.length ≤ cur.size → (∀ v ∈ vs, v.oneCell' = true) →
    (storeCells ⟨g, o, none⟩ vs i).run P w = .ok () (w.setRow g (cur.toList.take (o + i) ++ vs ++ cur.toList.drop (o + i + vs.length)).toArray)
  | [], i, cur, w, hg, _, _, _ => by
    simp only [storeCells, List.append_nil, List.length_nil, Nat.add_zero, List.take_append_drop, Array.toArray_toList]
    rw [setRow_self w g cur t fz hg]
    rfl
  | v :: rest, i, cur, w, hg, hfz, hl, h1 => by
    have hi : o + i < cur.size := by simp at hl; omega
    have hadd : (⟨g, o, none⟩ : Addr).add i = ⟨g, o + i, none⟩ := by unfold Addr.add; split <;> simp_all
    have hcell : w.cell? ⟨g, o + i, none⟩ = some cur[o + i] := by simp [World.cell?, hg, hi]
    have hfro : w.frozen? ⟨g, o + i, none⟩ = false := by
      obtain ⟨lo, hi'⟩ := fz
      simp only [World.frozen?, hg, Bool.and_eq_false_iff, decide_eq_false_iff_not]
      simp only at hfz
      rcases hfz with h | h
      · right; omega
      · left; omega
    have hst : (store ((⟨g, o, none⟩ : Addr).add i) v).run P w = .ok () (w.setRow g (cur.setIfInBounds (o + i) v)) := by
      rw [hadd, run_store P w _ v _ (h1 v (by simp)), hcell]
      simp [hfro, setCell_eq_setRow w g (o + i) cur t fz v hg]
    have ih := run_storeCells_atM P g o t fz rest (i + 1) (cur.setIfInBounds (o + i) v) (w.setRow g (cur.setIfInBounds (o + i) v)) (setRow_heap w g cur _ t _ hg) (by simpa using hfz) (by simp at hl ⊢; omega) (fun x hx => h1 x (by simp [hx]))
    simp only [storeCells, Sem.run_bind, hst, Result.andThen_ok, ih, setRow_setRow]
    congr 3
    have e := list_seg_step cur.toList (o + i) v rest (by simp at hl ⊢; omega)
    simpa [Array.toList_setIfInBounds, Nat.add_assoc] using e

/-- Bytes in a row of the call's own, which may bear a conversion's mark. -/
def OwnM (w : World) (B : Nat) (v : Value) (l : List UInt8) : Prop :=
  ∃ g cap cur fz, v = .slice (some ⟨g, 0, none⟩) l.length cap ∧ B ≤ g ∧ w.heap[g]? = some (.cells cur 5 fz) ∧ (fz.2 = 0 ∨ cur.size ≤ fz.1) ∧ l.length ≤ cap ∧ cap ≤ maxLen ∧ cur.size = cap ∧ cur.toList.take l.length = bytesV l
theorem OwnM.lt {w : World} {B : Nat} {v : Value} {l : List UInt8} (h : OwnM w B v l) : ∀ k, v.ownBlock = some k → B ≤ k ∧ k < w.heap.size := by
  obtain ⟨g, cap, cur, fz, rfl, hb, hg, _⟩ := h
  intro k hk
  have : g = k := by simpa [Value.ownBlock] using hk
  subst this
  exact ⟨hb, (Array.getElem?_eq_some_iff.1 hg).1⟩
theorem OwnM.kept {w w' : World} {B : Nat} {v : Value} {l : List UInt8} {row : Option Nat} (h : OwnM w B v l) (hg : w.grownBy w' row) (hne : v.ownBlock ≠ row) : OwnM w' B v l := by
  obtain ⟨g, cap, cur, fz, rfl, hb, hh, rest⟩ := h
  have hlt := (Array.getElem?_eq_some_iff.1 hh).1
  exact ⟨g, cap, cur, fz, rfl, hb, (hg.block g hlt (fun e => hne (by simp [Value.ownBlock, e]))).trans hh, rest⟩
theorem OwnM.below {w w' : World} {B : Nat} {v : Value} {l : List UInt8} (h : OwnM w B v l) (hb : Below w.heap.size w w') : OwnM w' B v l := by
  obtain ⟨g, cap, cur, fz, rfl, hB, hh, rest⟩ := h
  exact ⟨g, cap, cur, fz, rfl, hB, (hb.block g (Array.getElem?_eq_some_iff.1 hh).1).trans hh, rest⟩
theorem OwnM.form {w : World} {B : Nat} {v : Value} {l : List UInt8} (h : OwnM w B v l) : ∃ g cap, v = .slice (some ⟨g, 0, none⟩) l.length cap ∧ B ≤ g ∧ l.length ≤ cap ∧ cap ≤ maxLen ∧ ∀ j, j < l.length → w.cell? ⟨g, j, none⟩ = some (.int .u8 (bv (l.getD j 0))) := by
  obtain ⟨g, cap, cur, fz, rfl, hB, hh, hf, h1, h2, h3, h4⟩ := h
  refine ⟨g, cap, rfl, hB, h1, h2, fun j hj => ?_⟩
  rw [cell_of_row w g j cur 5 fz hh]
  have h5 := congrArg (fun z => z[j]?) h4
  simp only [List.getElem?_take, hj, if_true, bytesV, List.getElem?_map, Array.getElem?_toList] at h5
  rw [h5, List.getElem?_eq_getElem hj, List.getD_eq_getElem?_getD, List.getElem?_eq_getElem hj]
  rfl

section
variable {P : Program} (w : World)
theorem run_append_roomM (t ty e : TypeId) (i : TypeInfo) (ht : P.underlying t = some (.slice e)) (hi : P.info? e = some i)
    (g sLen sCap : Nat) (cur : Array Value) (fz : Nat × Nat) (hg : w.heap[g]? = some (.cells cur e fz)) (hfz : fz.2 = 0 ∨ cur.size ≤ fz.1)
    (a : Addr) (m c : Nat) (news : List Value) (hl : news.length = m * i.size) (hnews : ∀ j u, news[j]? = some u → w.cell? (a.add j) = some u) (h1 : ∀ u ∈ news, u.oneCell' = true)
    (hroom : sLen + m ≤ sCap) (hfit : sLen * i.size + news.length ≤ cur.size) :
    (Builtin.append_ #[t, t] ty #[.slice (some ⟨g, 0, none⟩) sLen sCap, .slice (some a) m c]).run P w =
      .ok (.slice (some ⟨g, 0, none⟩) (sLen + m) sCap) (w.setRow g (cur.toList.take (sLen * i.size) ++ news ++ cur.toList.drop (sLen * i.size + news.length)).toArray) := by
  have hf := run_firstCells_some (P := P) w i.size m a m c news hl hnews
  have hst := run_storeCells_atM P g (sLen * i.size) e fz news 0 cur w hg hfz (by simpa using hfit) h1
  simp only [Nat.add_zero] at hst
  simp [Builtin.append_, run_underlying ht, sizeOf, typeInfo, hi, Builtin.lenOf, hroom, hf, Addr.add_lit, hst]
end
section
variable {ops : Array Oper} {rest : List Oper} {o : Oper} {a : Act} {w : World} {Q : Exit → Act → World → Prop}
/-- append(b, x..): bytes behind bytes. -/
theorem append_ownM (hgd : o.guard = none) (s x : Operand) (t : TypeId) (ho : o.op = .call { callee := .builtin .append, args := #[s, x], argTypes := #[t, t] }) (ht : Try.prog.underlying t = some (.slice 5))
    (B : Nat) (v : Value) (l : List UInt8) (hs : a.eval s = v) (hown : OwnM w B v l) (ad : Addr) (m c : Nat) (news : List UInt8) (hx : a.eval x = .slice (some ad) m c) (hl : news.length = m) (hnews : ∀ j, j < m → w.cell? (ad.add j) = some (.int .u8 (bv (news.getD j 0))))
    (hb : l.length + m ≤ 140737488355328) (hbase : B ≤ w.heap.size)
    (h : ∀ v' w', OwnM w' B v' (l ++ news) → w.grownBy w' v.ownBlock → (v'.ownBlock = v.ownBlock ∨ v'.ownBlock = some w.heap.size) → wpList Try.prog ops Q rest (a.put o.dst v') w') : wpList Try.prog ops Q (o :: rest) a w := by
  obtain ⟨i, hi, hz0, hz1, hz2⟩ := info_parts byte_info
  refine wpList_plain hgd fun K hK => ?_
  have hnl : (bytesV news).length = m * i.size := by rw [bytesV_len, hl, hz1, Nat.mul_one]
  have hnews' : ∀ j u, (bytesV news)[j]? = some u → w.cell? (ad.add j) = some u := fun j u hu => by
    have hj : j < news.length := by have := (List.getElem?_eq_some_iff.1 hu).1; rwa [bytesV_len] at this
    rw [hnews j (by omega), ← hu, bytesV, List.getElem?_map, List.getElem?_eq_getElem hj, List.getD_eq_getElem?_getD, List.getElem?_eq_getElem hj]
    rfl
  suffices hrun : ∃ v' w', (Builtin.append_ #[t, t] o.type #[v, .slice (some ad) m c]).run Try.prog w = .ok v' w' ∧ OwnM w' B v' (l ++ news) ∧ w.grownBy w' v.ownBlock ∧ (v'.ownBlock = v.ownBlock ∨ v'.ownBlock = some w.heap.size) by
    obtain ⟨v', w', hr, h2, h3, h4⟩ := hrun
    unfold Oper.wp execOp
    simp only [ho, resolve, invoke, builtin, Sem.run_bind, Sem.run_pure, Result.andThen_ok, List.map_toArray, List.map_cons, List.map_nil, hs, hx, hr]
    exact hK _ _ (h v' w' h2 h3 h4)
  obtain ⟨g, cap, cur, fz, rfl, hB, hg, hfz, h1, h2, h3, h4⟩ := hown
  have hll : (l ++ news).length = l.length + m := by rw [List.length_append, hl]
  by_cases hroom : l.length + m ≤ cap
  · have hr := run_append_roomM (P := Try.prog) w t o.type 5 i ht hi g l.length cap cur fz hg hfz ad m c (bytesV news) hnl hnews' (bytesV_one news) hroom (by rw [hz1, bytesV_len, Nat.mul_one]; omega)
    refine ⟨_, _, hr, ⟨g, cap, _, fz, by rw [hll], hB, setRow_heap w g cur _ _ _ hg, ?_, by omega, h2, ?_, ?_⟩, ⟨rfl, rfl, rfl, by simp, fun k _ hk => setRow_other w g k _ (fun e => hk (by simp [Value.ownBlock, e]))⟩, .inl rfl⟩
    · simp only [hz1, Nat.mul_one, bytesV_len, List.size_toArray, List.length_append, List.length_take, List.length_drop, Array.length_toList]
      rcases hfz with h | h
      · exact .inl h
      · right; omega
    · simp only [hz1, Nat.mul_one, bytesV_len, List.size_toArray, List.length_append, List.length_take, List.length_drop, Array.length_toList]
      omega
    · simp only [hz1, Nat.mul_one]
      rw [h4, bytesV_app, show (l ++ news).length = (bytesV l ++ bytesV news).length by rw [List.length_append, List.length_append, bytesV_len, bytesV_len]]
      exact List.take_left
  · have holds : ∀ j u, (bytesV l)[j]? = some u → w.cell? ((⟨g, 0, none⟩ : Addr).add j) = some u := fun j u hu => by
      have hj : j < l.length := by have := (List.getElem?_eq_some_iff.1 hu).1; rwa [bytesV_len] at this
      rw [add_plain, cell_of_row w g j cur _ fz hg, ← hu, ← h4, List.getElem?_take, if_pos hj, Array.getElem?_toList]
    have hr := run_append_grow (P := Try.prog) w t o.type 5 i _ ht hi hz0 ⟨g, 0, none⟩ l.length cap (bytesV l) (by rw [bytesV_len, hz1, Nat.mul_one]) holds ad m c (bytesV news) hnl hnews' (by omega) (by omega) (growslice_fits (by omega) (by rw [hz2]; omega))
    have hge := grownCap_ge w (l.length + m) cap 5
    have hcm2 : grownCap w (l.length + m) cap 5 ≤ maxLen := grownCap_le_maxLen w (l.length + m) cap 5 (by simp only [maxLen]; omega)
    refine ⟨_, _, hr, ⟨w.heap.size, _, _, (0, 0), by rw [hll], hbase, heap_alloc_new w.drew _, .inl rfl, by omega, hcm2, ?_, ?_⟩, ⟨rfl, rfl, rfl, by simp, fun k hk _ => Below.heap_alloc w.drew _ k hk⟩, .inr rfl⟩
    · simp only [Array.size_append, List.size_toArray, size_zeroCells, bytesV_len, hl]
      have : (Value.int IntKind.u8 0).cells.size = 1 := rfl
      rw [this, Nat.mul_one]
      omega
    · simp only [Array.toList_append, List.append_assoc]
      rw [bytesV_app, ← List.append_assoc, show (l ++ news).length = (bytesV l ++ bytesV news).length by rw [List.length_append, List.length_append, bytesV_len, bytesV_len]]
      exact List.take_left
/-- A text's bytes, as '[]byte(s)' lays them. -/
theorem conv_ownM (hgd : o.guard = none) (src dst : TypeId) (x : Operand) (ho : o.op = .convert src dst x) (s : ByteArray) (hx : a.eval x = .string s) (hs : Try.prog.underlying src = some .string) (hd : Try.prog.underlying dst = some (.slice 5)) (he : Try.prog.underlying 5 = some (.int .u8)) (hlen : s.size ≤ 140737488355328)
    (h : ∀ v w', OwnM w' w.heap.size v s.data.toList → Below w.heap.size w w' → wpList Try.prog ops Q rest (a.put o.dst v) w') : wpList Try.prog ops Q (o :: rest) a w := by
  refine wpList_plain hgd fun K hK => ?_
  have hr := run_bytes_of_string (P := Try.prog) w src dst 5 s hs hd he
  have hge := grownCap_ge w s.size 0 5
  have hle : grownCap w s.size 0 5 ≤ maxLen := grownCap_le_maxLen w s.size 0 5 (by simp only [maxLen]; omega)
  have hsz : (bytesRow s (grownCap w s.size 0 5)).size = grownCap w s.size 0 5 := by
    have : s.data.size = s.size := rfl
    simp [bytesRow, this]; omega
  unfold Oper.wp execOp
  simp only [ho, hx, Sem.run_bind, hr, Result.andThen_ok]
  refine hK _ _ (h _ _ ⟨w.heap.size, _, _, _, rfl, Nat.le_refl _, heap_alloc_new w.drew _, .inr (Nat.le_refl _), ?_, hle, hsz, ?_⟩ ((bl_drew (Below.refl w.heap.size w)).alloc (Nat.le_refl _) _))
  · exact hge
  · have : s.data.size = s.size := rfl
    simp only [bytesRow, Array.toList_append, Array.toList_map]
    rw [List.take_left' (by simp)]
    rfl
end
end Go.Proofs.Ytpklkjekkbpeoaa
