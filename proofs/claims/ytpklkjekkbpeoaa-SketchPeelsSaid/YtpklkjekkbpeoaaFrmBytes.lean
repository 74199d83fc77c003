/- DERIVED. Bytes of the call's own, nil let in; one byte, a text's bytes put behind them. (The lemma 'run_append_room_strM' is the library's own on rows with a frozen head, turned to this claim.) -/
import Derived.Test.YtpklkjekkbpeoaaDigBuf
import Derived.Lib.AppendStr
namespace Go.Proofs.Ytpklkjekkbpeoaa
open Go.RowKit Go.Lib
set_option linter.unusedVariables false
set_option linter.unusedSimpArgs false

def OwnN (w : World) (B : Nat) (v : Value) (l : List UInt8) : Prop := (v = .slice none 0 0 ∧ l = []) ∨ OwnM w B v l
theorem OwnN.nil (w : World) (B : Nat) : OwnN w B (.slice none 0 0) [] := .inl ⟨rfl, rfl⟩
theorem OwnN.lt {w : World} {B : Nat} {v : Value} {l : List UInt8} (h : OwnN w B v l) : ∀ k, v.ownBlock = some k → B ≤ k ∧ k < w.heap.size := by
  rcases h with ⟨rfl, _⟩ | h
  · intro k hk; simp [Value.ownBlock] at hk
  · exact h.lt
theorem OwnN.kept {w w' : World} {B : Nat} {v : Value} {l : List UInt8} {row : Option Nat} (h : OwnN w B v l) (hg : w.grownBy w' row) (hne : v.ownBlock = none ∨ v.ownBlock ≠ row) : OwnN w' B v l := by
  rcases h with h | h
  · exact .inl h
  · refine .inr (h.kept hg ?_)
    rcases hne with h0 | h0
    · obtain ⟨g, cap, rfl, _⟩ := h.form
      simp [Value.ownBlock] at h0
    · exact h0
theorem OwnN.below {w w' : World} {B : Nat} {v : Value} {l : List UInt8} (h : OwnN w B v l) (hb : Below w.heap.size w w') : OwnN w' B v l := by
  rcases h with h | h
  · exact .inl h
  · exact .inr (h.below hb)
theorem OwnN.alloc {w : World} {B : Nat} {v : Value} {l : List UInt8} (h : OwnN w B v l) (o : Obj) : OwnN (w.alloc o) B v l := h.below ((Below.refl _ _).alloc (Nat.le_refl _) o)
theorem OwnN.drewN {w : World} {B : Nat} {v : Value} {l : List UInt8} (h : OwnN w B v l) (n : Nat) : OwnN (w.drewN n) B v l := h.below (bl_drewN (Below.refl _ _) n)
theorem OwnN.drew {w : World} {B : Nat} {v : Value} {l : List UInt8} (h : OwnN w B v l) : OwnN w.drew B v l := h.below (bl_drew (Below.refl _ _))
theorem OwnN.set_ {w : World} {B : Nat} {v : Value} {l : List UInt8} {p : Addr} (h : OwnN w B v l) (hne : v.ownBlock ≠ some p.block) (u : Value) : OwnN (w.setCell p u) B v l :=
  h.kept (row := some p.block) ⟨rfl, rfl, rfl, by simp [World.setCell], fun k _ hk => Below.heap_setCell _ _ _ _ (by intro e; subst e; exact hk rfl)⟩ (.inr hne)
theorem OwnN.ne_blk {w : World} {B g : Nat} {t : TypeId} {cs : Array Value} {v : Value} {l : List UInt8} (h : OwnN w B v l) (hg : GR.Blk w g t cs) (hne : 5 ≠ t) : v.ownBlock ≠ some g := by
  rcases h with ⟨rfl, _⟩ | ⟨g', cap, cur, fz, rfl, _, hh, _⟩
  · simp [Value.ownBlock]
  · intro he
    have : g' = g := by simpa [Value.ownBlock] using he
    subst this
    unfold GR.Blk at hg
    rw [hh] at hg
    injection hg with h1
    injection h1 with _ h2 _
    exact hne h2
theorem OwnN.slice {w : World} {B : Nat} {v : Value} {l : List UInt8} (h : OwnN w B v l) : ∃ A c, v = .slice A l.length c := by
  rcases h with ⟨rfl, rfl⟩ | h
  · exact ⟨none, 0, rfl⟩
  · obtain ⟨g, cap, rfl, _⟩ := h.form
    exact ⟨_, cap, rfl⟩
theorem OwnN.slice' {w : World} {B : Nat} {v : Value} {l : List UInt8} (h : OwnN w B v l) : ∃ A n c, v = .slice A n c := by
  obtain ⟨A, c, e⟩ := h.slice
  exact ⟨A, _, c, e⟩
theorem OwnN.more {w : World} {B B' : Nat} {v : Value} {l : List UInt8} (h : OwnN w B v l) (hb : B' ≤ B) : OwnN w B' v l := by
  rcases h with h | ⟨g, cap, cur, fz, e, h1, r⟩
  · exact .inl h
  · exact .inr ⟨g, cap, cur, fz, e, Nat.le_trans hb h1, r⟩
theorem OwnN.of_own {w : World} {B : Nat} {v : Value} {l : List UInt8} (h : w.ownsRow B 5 1 v l.length (bytesV l)) : OwnN w B v l := by
  rcases h.2 with ⟨rfl, h0⟩ | ⟨g, cap, cur, rfl, hb, hg, h1, h2, h3, h4⟩
  · exact .inl ⟨rfl, List.eq_nil_of_length_eq_zero h0⟩
  · exact .inr ⟨g, cap, cur, (0, 0), rfl, hb, hg, .inl rfl, h1, h2, by simpa using h3, by simpa using h4⟩
theorem strCells_bytesV (s : ByteArray) : strCells s = bytesV s.data.toList := by
  simp [strCells, bytesV, bv]

section
variable {P : Program} (w : World)
theorem run_append_room_strM (t u ty e : TypeId) (i : TypeInfo) (ht : P.underlying t = some (.slice e)) (hu : P.underlying u = some .string) (hi : P.info? e = some i) (hs1 : i.size = 1)
    (g sLen sCap : Nat) (cur : Array Value) (fz : Nat × Nat) (hg : w.heap[g]? = some (.cells cur e fz)) (hfz : fz.2 = 0 ∨ cur.size ≤ fz.1) (s : ByteArray)
    (hroom : sLen + s.size ≤ sCap) (hfit : sLen + s.size ≤ cur.size) :
    (Builtin.append_ #[t, u] ty #[.slice (some ⟨g, 0, none⟩) sLen sCap, .string s]).run P w =
      .ok (.slice (some ⟨g, 0, none⟩) (sLen + s.size) sCap) (w.setRow g (cur.toList.take sLen ++ strCells s ++ cur.toList.drop (sLen + s.size)).toArray) := by
  have hf := run_firstCells_string (P := P) w 1 s
  have hst := run_storeCells_atM P g sLen e fz (strCells s) 0 cur w hg hfz (by simpa [strCells_length] using hfit) (strCells_oneCell s)
  simp only [Nat.add_zero, strCells_length] at hst
  simp [Builtin.append_, run_underlying ht, run_underlying hu, sizeOf, typeInfo, hi, hs1, Builtin.lenOf, hroom, hf, Addr.add_lit, hst]
end

theorem run_append_ownM {w : World} (ty : TypeId) {B : Nat} {v : Value} {l : List UInt8} (hown : OwnM w B v l) (ad : Addr) (m c : Nat) (news : List UInt8) (hl : news.length = m) (hnews : ∀ j, j < m → w.cell? (ad.add j) = some (.int .u8 (bv (news.getD j 0))))
    (hb : l.length + m ≤ 140737488355328) (hbase : B ≤ w.heap.size) :
    ∃ v' w', (Builtin.append_ #[72, 72] ty #[v, .slice (some ad) m c]).run Try.prog w = .ok v' w' ∧ OwnM w' B v' (l ++ news) ∧ w.grownBy w' v.ownBlock := by
  have ht := Try.underlying72
  obtain ⟨i, hi, hz0, hz1, hz2⟩ := info_parts byte_info
  have hnl : (bytesV news).length = m * i.size := by rw [bytesV_len, hl, hz1, Nat.mul_one]
  have hnews' : ∀ j u, (bytesV news)[j]? = some u → w.cell? (ad.add j) = some u := fun j u hu => by
    have hj : j < news.length := by have := (List.getElem?_eq_some_iff.1 hu).1; rwa [bytesV_len] at this
    rw [hnews j (by omega), ← hu, bytesV, List.getElem?_map, List.getElem?_eq_getElem hj, List.getD_eq_getElem?_getD, List.getElem?_eq_getElem hj]
    rfl
  obtain ⟨g, cap, cur, fz, rfl, hB, hg, hfz, h1, h2, h3, h4⟩ := hown
  have hll : (l ++ news).length = l.length + m := by rw [List.length_append, hl]
  by_cases hroom : l.length + m ≤ cap
  · have hr := run_append_roomM (P := Try.prog) w 72 ty 5 i ht hi g l.length cap cur fz hg hfz ad m c (bytesV news) hnl hnews' (bytesV_one news) hroom (by rw [hz1, bytesV_len, Nat.mul_one]; omega)
    refine ⟨_, _, hr, ⟨g, cap, _, fz, by rw [hll], hB, setRow_heap w g cur _ _ _ hg, ?_, by omega, h2, ?_, ?_⟩, ⟨rfl, rfl, rfl, by simp, fun k _ hk => setRow_other w g k _ (fun e => hk (by simp [Value.ownBlock, e]))⟩⟩
    · simp only [hz1, Nat.mul_one, bytesV_len, List.size_toArray, List.length_append, List.length_take, List.length_drop, Array.length_toList]
      rcases hfz with h | h
      · exact .inl h
      · right; omega
    · simp only [hz1, Nat.mul_one, bytesV_len, List.size_toArray, List.length_append, List.length_take, List.length_drop, Array.length_toList]
      omega
    · simp only [hz1, Nat.mul_one]
      rw [h4, bytesV_app, show (l ++ news).length = (bytesV l ++ bytesV news).length by rw [List.length_append, List.length_append, bytesV_len, bytesV_len]]
      exact List.take_left
  · have holds : ∀ j u, (bytesV l)[j]? = some u → w.cell? ((⟨g, 0, none⟩ : Addr).add j) = some u := fun j u hu => by
      have hj : j < l.length := by have := (List.getElem?_eq_some_iff.1 hu).1; rwa [bytesV_len] at this
      rw [add_plain, cell_of_row w g j cur _ fz hg, ← hu, ← h4, List.getElem?_take, if_pos hj, Array.getElem?_toList]
    have hr := run_append_grow (P := Try.prog) w 72 ty 5 i _ ht hi hz0 ⟨g, 0, none⟩ l.length cap (bytesV l) (by rw [bytesV_len, hz1, Nat.mul_one]) holds ad m c (bytesV news) hnl hnews' (by omega) (by omega) (growslice_fits (by omega) (by rw [hz2]; omega))
    have hge := grownCap_ge w (l.length + m) cap 5
    have hcm2 : grownCap w (l.length + m) cap 5 ≤ maxLen := grownCap_le_maxLen w (l.length + m) cap 5 (by simp only [maxLen]; omega)
    refine ⟨_, _, hr, ⟨w.heap.size, _, _, (0, 0), by rw [hll], hbase, heap_alloc_new w.drew _, .inl rfl, by omega, hcm2, ?_, ?_⟩, ⟨rfl, rfl, rfl, by simp, fun k hk _ => Below.heap_alloc w.drew _ k hk⟩⟩
    · simp only [Array.size_append, List.size_toArray, size_zeroCells, bytesV_len, hl]
      have : (Value.int IntKind.u8 0).cells.size = 1 := rfl
      rw [this, Nat.mul_one]
      omega
    · simp only [Array.toList_append, List.append_assoc]
      rw [bytesV_app, ← List.append_assoc, show (l ++ news).length = (bytesV l ++ bytesV news).length by rw [List.length_append, List.length_append, bytesV_len, bytesV_len]]
      exact List.take_left

/-- append(b, s...): a text's bytes behind bytes. -/
theorem run_appS {w : World} (ty : TypeId) {B : Nat} {v : Value} {l : List UInt8} (hown : OwnN w B v l) (s : ByteArray) (hb : l.length + s.size ≤ 140737488355328) (hbase : B ≤ w.heap.size) :
    ∃ v' w', (Builtin.append_ #[72, 9] ty #[v, .string s]).run Try.prog w = .ok v' w' ∧ OwnN w' B v' (l ++ s.data.toList) ∧ w.grownBy w' v.ownBlock := by
  obtain ⟨i, hi, hz0, hz1, hz2⟩ := info_parts byte_info
  have hsl : s.data.toList.length = s.size := rfl
  rcases hown with ⟨rfl, rfl⟩ | ⟨g, cap, cur, fz, rfl, hB, hg, hfz, h1, h2, h3, h4⟩
  · obtain ⟨v', w', hr, h2, h3, _⟩ := run_append_own_string (P := Try.prog) w B 72 9 ty 5 i Try.underlying72 Try.underlying9 hi hz0 hz1 hz2 (.slice none 0 0) 0 [] ⟨by simp, .inl ⟨rfl, rfl⟩⟩ s (by simp only [maxLen]; simp at hb; omega) (by simpa using hb) hbase
    refine ⟨v', w', hr, OwnN.of_own ?_, h3⟩
    rw [List.nil_append, hsl, ← strCells_bytesV]
    simpa using h2
  · by_cases hroom : l.length + s.size ≤ cap
    · have hr := run_append_room_strM (P := Try.prog) w 72 9 ty 5 i Try.underlying72 Try.underlying9 hi hz1 g l.length cap cur fz hg hfz s hroom (by omega)
      refine ⟨_, _, hr, .inr ⟨g, cap, _, fz, by rw [List.length_append, hsl], hB, setRow_heap w g cur _ _ _ hg, ?_, by rw [List.length_append, hsl]; exact hroom, h2, ?_, ?_⟩, ⟨rfl, rfl, rfl, by simp, fun k _ hk => setRow_other w g k _ (fun e => hk (by simp [Value.ownBlock, e]))⟩⟩
      · simp only [List.size_toArray, List.length_append, List.length_take, List.length_drop, Array.length_toList, strCells_length]
        rcases hfz with h | h
        · exact .inl h
        · right; omega
      · simp only [List.size_toArray, List.length_append, List.length_take, List.length_drop, Array.length_toList, strCells_length]
        omega
      · rw [h4, bytesV_app, strCells_bytesV, show (l ++ s.data.toList).length = (bytesV l ++ bytesV s.data.toList).length by rw [List.length_append, List.length_append, bytesV_len, bytesV_len]]
        exact List.take_left
    · have holds : ∀ j u, (bytesV l)[j]? = some u → w.cell? ((⟨g, 0, none⟩ : Addr).add j) = some u := fun j u hu => by
        have hj : j < l.length := by have := (List.getElem?_eq_some_iff.1 hu).1; rwa [bytesV_len] at this
        rw [add_plain, cell_of_row w g j cur _ fz hg, ← hu, ← h4, List.getElem?_take, if_pos hj, Array.getElem?_toList]
      have hr := run_append_grow_string (P := Try.prog) w 72 9 ty 5 i _ Try.underlying72 Try.underlying9 hi hz0 ⟨g, 0, none⟩ l.length cap (bytesV l) (by rw [bytesV_len, hz1, Nat.mul_one]) holds s (by omega) (by omega) (by rw [hz2]; exact growslice_fits (by omega) (by omega))
      have hge := grownCap_ge w (l.length + s.size) cap 5
      have hcm2 : grownCap w (l.length + s.size) cap 5 ≤ maxLen := grownCap_le_maxLen w (l.length + s.size) cap 5 (by simp only [maxLen]; omega)
      refine ⟨_, _, hr, .inr ⟨w.heap.size, _, _, (0, 0), by rw [List.length_append, hsl], hbase, heap_alloc_new w.drew _, .inl rfl, by rw [List.length_append, hsl]; omega, hcm2, ?_, ?_⟩, ⟨rfl, rfl, rfl, by simp, fun k hk _ => Below.heap_alloc w.drew _ k hk⟩⟩
      · simp only [Array.size_append, List.size_toArray, size_zeroCells, bytesV_len, strCells_length]
        have : (Value.int IntKind.u8 0).cells.size = 1 := rfl
        rw [this, Nat.mul_one]
        omega
      · simp only [Array.toList_append, List.append_assoc]
        rw [bytesV_app, ← List.append_assoc, strCells_bytesV, show (l ++ s.data.toList).length = (bytesV l ++ bytesV s.data.toList).length by rw [List.length_append, List.length_append, bytesV_len, bytesV_len]]
        exact List.take_left

/-- append(b, x): the byte lies in a block of its own. -/
theorem run_app1 {w : World} (ty : TypeId) {B : Nat} {v : Value} {l : List UInt8} (hown : OwnN w B v l) (ad : Addr) (c : Nat) (x : UInt8) (hx : w.cell? ad = some (.int .u8 (bv x))) (hb : l.length + 1 ≤ 140737488355328) (hbase : B ≤ w.heap.size) :
    ∃ v' w', (Builtin.append_ #[72, 72] ty #[v, .slice (some ad) 1 c]).run Try.prog w = .ok v' w' ∧ OwnN w' B v' (l ++ [x]) ∧ w.grownBy w' v.ownBlock := by
  obtain ⟨i, hi, hz0, hz1, hz2⟩ := info_parts byte_info
  rcases hown with ⟨rfl, rfl⟩ | hown
  · obtain ⟨v', w', hr, h2, h3, _⟩ := GR.run_append_any (P := Try.prog) w B 72 ty 5 i _ 1 1 Try.underlying72 hi hz0 hz1 hz2 rfl (by omega) (.slice none 0 0) 0 [] ⟨by simp, .inl ⟨rfl, rfl⟩⟩ w.heap.size (some ad) 1 c (bytesV [x]) ⟨by simp [bytesV], fun _ => ⟨ad, rfl, World.block_lt_of_cell? w _ hx, fun j u hu => by
      match j, hu with
      | 0, hu =>
        have e0 : ad.add 0 = ad := by simp [Addr.add]
        rw [e0, hx]
        simpa [bytesV] using hu⟩⟩ (bytesV_one [x]) (by simp [maxLen]) (by omega) hbase
    exact ⟨v', w', hr, OwnN.of_own (by simpa using h2), h3⟩
  · obtain ⟨v', w', hr, h2, h3⟩ := run_append_ownM ty hown ad 1 c [x] rfl (fun j hj => by
      obtain rfl : j = 0 := by omega
      have e0 : ad.add 0 = ad := by simp [Addr.add]
      rw [e0, hx]
      rfl) hb hbase
    exact ⟨v', w', hr, .inr h2, h3⟩
end Go.Proofs.Ytpklkjekkbpeoaa
