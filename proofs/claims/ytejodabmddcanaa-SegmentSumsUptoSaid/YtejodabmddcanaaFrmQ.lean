/- DERIVED. SegmentSums: the walk of the law. (One text out of several: FrmBytes, FrmUint, FrmWr, FrmFix, FrmForm, FrmSum, FrmInj, FrmSumsW.) -/
import Derived.Test.YtejodabmddcanaaSegPrefix
import Derived.Lib.AppendStr
import Derived.Laws.BitsAllLaws
import Derived.Deep.RegionHeld3
import Derived.Test.YtejodabmddcanaaSegAwake
import Derived.Test.YtejodabmddcanaaSegLent
namespace Go.Proofs.Ytejodabmddcanaa
open Go.RowKit Go.Lib

def OwnN (w : World) (B : Nat) (v : Value) (l : List UInt8) : Prop := (v = .slice none 0 0 ∧ l = []) ∨ OwnM w B v l
theorem OwnN.nil (w : World) (B : Nat) : OwnN w B (.slice none 0 0) [] := .inl ⟨rfl, rfl⟩
theorem OwnN.lt {w : World} {B : Nat} {v : Value} {l : List UInt8} (h : OwnN w B v l) : ∀ k, v.ownBlock = some k → B ≤ k ∧ k < w.heap.size := by
  rcases h with ⟨rfl, _⟩ | h
  · intro k hk; simp [Value.ownBlock] at hk
  · exact h.lt
theorem OwnN.kept {w w' : World} {B : Nat} {v : Value} {l : List UInt8} {row : Option Nat} (h : OwnN w B v l) (hg : w.grownBy w' row) (hne : v.ownBlock = none ∨ v.ownBlock ≠ row) : OwnN w' B v l := by
  rcases h with h | h
  · exact .inl h
  · refine .inr (h.kept hg ?_)
    rcases hne with h0 | h0
    · obtain ⟨g, cap, rfl, _⟩ := h.form
      simp [Value.ownBlock] at h0
    · exact h0
theorem OwnN.below {w w' : World} {B : Nat} {v : Value} {l : List UInt8} (h : OwnN w B v l) (hb : Below w.heap.size w w') : OwnN w' B v l := by
  rcases h with h | h
  · exact .inl h
  · exact .inr (h.below hb)
theorem OwnN.alloc {w : World} {B : Nat} {v : Value} {l : List UInt8} (h : OwnN w B v l) (o : Obj) : OwnN (w.alloc o) B v l := h.below ((Below.refl _ _).alloc (Nat.le_refl _) o)
theorem OwnN.drewN {w : World} {B : Nat} {v : Value} {l : List UInt8} (h : OwnN w B v l) (n : Nat) : OwnN (w.drewN n) B v l := h.below (bl_drewN (Below.refl _ _) n)
theorem OwnN.drew {w : World} {B : Nat} {v : Value} {l : List UInt8} (h : OwnN w B v l) : OwnN w.drew B v l := h.below (bl_drew (Below.refl _ _))
theorem OwnN.set_ {w : World} {B : Nat} {v : Value} {l : List UInt8} {p : Addr} (h : OwnN w B v l) (hne : v.ownBlock ≠ some p.block) (u : Value) : OwnN (w.setCell p u) B v l :=
  h.kept (row := some p.block) ⟨rfl, rfl, rfl, by simp [World.setCell], fun k _ hk => Below.heap_setCell _ _ _ _ (by intro e; subst e; exact hk rfl)⟩ (.inr hne)
theorem OwnN.ne_blk {w : World} {B g : Nat} {t : TypeId} {cs : Array Value} {v : Value} {l : List UInt8} (h : OwnN w B v l) (hg : GR.Blk w g t cs) (hne : 5 ≠ t) : v.ownBlock ≠ some g := by
  rcases h with ⟨rfl, _⟩ | ⟨g', cap, cur, fz, rfl, _, hh, _⟩
  · simp [Value.ownBlock]
  · intro he
    have : g' = g := by simpa [Value.ownBlock] using he
    subst this
    unfold GR.Blk at hg
    rw [hh] at hg
    injection hg with h1
    injection h1 with _ h2 _
    exact hne h2
theorem OwnN.slice {w : World} {B : Nat} {v : Value} {l : List UInt8} (h : OwnN w B v l) : ∃ A c, v = .slice A l.length c := by
  rcases h with ⟨rfl, rfl⟩ | h
  · exact ⟨none, 0, rfl⟩
  · obtain ⟨g, cap, rfl, _⟩ := h.form
    exact ⟨_, cap, rfl⟩
theorem OwnN.slice' {w : World} {B : Nat} {v : Value} {l : List UInt8} (h : OwnN w B v l) : ∃ A n c, v = .slice A n c := by
  obtain ⟨A, c, e⟩ := h.slice
  exact ⟨A, _, c, e⟩
theorem OwnN.more {w : World} {B B' : Nat} {v : Value} {l : List UInt8} (h : OwnN w B v l) (hb : B' ≤ B) : OwnN w B' v l := by
  rcases h with h | ⟨g, cap, cur, fz, e, h1, r⟩
  · exact .inl h
  · exact .inr ⟨g, cap, cur, fz, e, Nat.le_trans hb h1, r⟩
theorem OwnN.of_own {w : World} {B : Nat} {v : Value} {l : List UInt8} (h : w.ownsRow B 5 1 v l.length (bytesV l)) : OwnN w B v l := by
  rcases h.2 with ⟨rfl, h0⟩ | ⟨g, cap, cur, rfl, hb, hg, h1, h2, h3, h4⟩
  · exact .inl ⟨rfl, List.eq_nil_of_length_eq_zero h0⟩
  · exact .inr ⟨g, cap, cur, (0, 0), rfl, hb, hg, .inl rfl, h1, h2, by simpa using h3, by simpa using h4⟩
theorem strCells_bytesV (s : ByteArray) : strCells s = bytesV s.data.toList := by
  simp [strCells, bytesV, bv]

section
variable {P : Program} (w : World)
theorem run_append_room_strM (t u ty e : TypeId) (i : TypeInfo) (ht : P.underlying t = some (.slice e)) (hu : P.underlying u = some .string) (hi : P.info? e = some i) (hs1 : i.size = 1)
    (g sLen sCap : Nat) (cur : Array Value) (fz : Nat × Nat) (hg : w.heap[g]? = some (.cells cur e fz)) (hfz : fz.2 = 0 ∨ cur.size ≤ fz.1) (s : ByteArray)
    (hroom : sLen + s.size ≤ sCap) (hfit : sLen + s.size ≤ cur.size) :
    (Builtin.append_ #[t, u] ty #[.slice (some ⟨g, 0, none⟩) sLen sCap, .string s]).run P w =
      .ok (.slice (some ⟨g, 0, none⟩) (sLen + s.size) sCap) (w.setRow g (cur.toList.take sLen ++ strCells s ++ cur.toList.drop (sLen + s.size)).toArray) := by
  have hf := run_firstCells_string (P := P) w 1 s
  have hst := run_storeCells_atM P g sLen e fz (strCells s) 0 cur w hg hfz (by simpa [strCells_length] using hfit) (strCells_oneCell s)
  simp only [Nat.add_zero, strCells_length] at hst
  simp [Builtin.append_, run_underlying ht, run_underlying hu, sizeOf, typeInfo, hi, hs1, Builtin.lenOf, hroom, hf, Addr.add_lit, hst]
end

theorem run_append_ownM {w : World} (ty : TypeId) {B : Nat} {v : Value} {l : List UInt8} (hown : OwnM w B v l) (ad : Addr) (m c : Nat) (news : List UInt8) (hl : news.length = m) (hnews : ∀ j, j < m → w.cell? (ad.add j) = some (.int .u8 (bv (news.getD j 0))))
    (hb : l.length + m ≤ 140737488355328) (hbase : B ≤ w.heap.size) :
    ∃ v' w', (Builtin.append_ #[23, 23] ty #[v, .slice (some ad) m c]).run Try.prog w = .ok v' w' ∧ OwnM w' B v' (l ++ news) ∧ w.grownBy w' v.ownBlock := by
  have ht := Try.underlying23
  obtain ⟨i, hi, hz0, hz1, hz2⟩ := info_parts byte_info
  have hnl : (bytesV news).length = m * i.size := by rw [bytesV_len, hl, hz1, Nat.mul_one]
  have hnews' : ∀ j u, (bytesV news)[j]? = some u → w.cell? (ad.add j) = some u := fun j u hu => by
    have hj : j < news.length := by have := (List.getElem?_eq_some_iff.1 hu).1; rwa [bytesV_len] at this
    rw [hnews j (by omega), ← hu, bytesV, List.getElem?_map, List.getElem?_eq_getElem hj, List.getD_eq_getElem?_getD, List.getElem?_eq_getElem hj]
    rfl
  obtain ⟨g, cap, cur, fz, rfl, hB, hg, hfz, h1, h2, h3, h4⟩ := hown
  have hll : (l ++ news).length = l.length + m := by rw [List.length_append, hl]
  by_cases hroom : l.length + m ≤ cap
  · have hr := run_append_roomM (P := Try.prog) w 23 ty 5 i ht hi g l.length cap cur fz hg hfz ad m c (bytesV news) hnl hnews' (bytesV_one news) hroom (by rw [hz1, bytesV_len, Nat.mul_one]; omega)
    refine ⟨_, _, hr, ⟨g, cap, _, fz, by rw [hll], hB, setRow_heap w g cur _ _ _ hg, ?_, by omega, h2, ?_, ?_⟩, ⟨rfl, rfl, rfl, by simp, fun k _ hk => setRow_other w g k _ (fun e => hk (by simp [Value.ownBlock, e]))⟩⟩
    · simp only [hz1, Nat.mul_one, bytesV_len, List.size_toArray, List.length_append, List.length_take, List.length_drop, Array.length_toList]
      rcases hfz with h | h
      · exact .inl h
      · right; omega
    · simp only [hz1, Nat.mul_one, bytesV_len, List.size_toArray, List.length_append, List.length_take, List.length_drop, Array.length_toList]
      omega
    · simp only [hz1, Nat.mul_one]
      rw [h4, bytesV_app, show (l ++ news).length = (bytesV l ++ bytesV news).length by rw [List.length_append, List.length_append, bytesV_len, bytesV_len]]
      exact List.take_left
  · have holds : ∀ j u, (bytesV l)[j]? = some u → w.cell? ((⟨g, 0, none⟩ : Addr).add j) = some u := fun j u hu => by
      have hj : j < l.length := by have := (List.getElem?_eq_some_iff.1 hu).1; rwa [bytesV_len] at this
      rw [add_plain, cell_of_row w g j cur _ fz hg, ← hu, ← h4, List.getElem?_take, if_pos hj, Array.getElem?_toList]
    have hr := run_append_grow (P := Try.prog) w 23 ty 5 i _ ht hi hz0 ⟨g, 0, none⟩ l.length cap (bytesV l) (by rw [bytesV_len, hz1, Nat.mul_one]) holds ad m c (bytesV news) hnl hnews' (by omega) (by omega) (growslice_fits (by omega) (by rw [hz2]; omega))
    have hge := grownCap_ge w (l.length + m) cap 5
    have hcm2 : grownCap w (l.length + m) cap 5 ≤ maxLen := grownCap_le_maxLen w (l.length + m) cap 5 (by simp only [maxLen]; omega)
    refine ⟨_, _, hr, ⟨w.heap.size, _, _, (0, 0), by rw [hll], hbase, heap_alloc_new w.drew _, .inl rfl, by omega, hcm2, ?_, ?_⟩, ⟨rfl, rfl, rfl, by simp, fun k hk _ => Below.heap_alloc w.drew _ k hk⟩⟩
    · simp only [Array.size_append, List.size_toArray, size_zeroCells, bytesV_len, hl]
      have : (Value.int IntKind.u8 0).cells.size = 1 := rfl
      rw [this, Nat.mul_one]
      omega
    · simp only [Array.toList_append, List.append_assoc]
      rw [bytesV_app, ← List.append_assoc, show (l ++ news).length = (bytesV l ++ bytesV news).length by rw [List.length_append, List.length_append, bytesV_len, bytesV_len]]
      exact List.take_left

/-- append(b, s...): a text's bytes behind bytes. -/
theorem run_appS {w : World} (ty : TypeId) {B : Nat} {v : Value} {l : List UInt8} (hown : OwnN w B v l) (s : ByteArray) (hb : l.length + s.size ≤ 140737488355328) (hbase : B ≤ w.heap.size) :
    ∃ v' w', (Builtin.append_ #[23, 9] ty #[v, .string s]).run Try.prog w = .ok v' w' ∧ OwnN w' B v' (l ++ s.data.toList) ∧ w.grownBy w' v.ownBlock := by
  obtain ⟨i, hi, hz0, hz1, hz2⟩ := info_parts byte_info
  have hsl : s.data.toList.length = s.size := rfl
  rcases hown with ⟨rfl, rfl⟩ | ⟨g, cap, cur, fz, rfl, hB, hg, hfz, h1, h2, h3, h4⟩
  · obtain ⟨v', w', hr, h2, h3, _⟩ := run_append_own_string (P := Try.prog) w B 23 9 ty 5 i Try.underlying23 Try.underlying9 hi hz0 hz1 hz2 (.slice none 0 0) 0 [] ⟨by simp, .inl ⟨rfl, rfl⟩⟩ s (by simp only [maxLen]; simp at hb; omega) (by simpa using hb) hbase
    refine ⟨v', w', hr, OwnN.of_own ?_, h3⟩
    rw [List.nil_append, hsl, ← strCells_bytesV]
    simpa using h2
  · by_cases hroom : l.length + s.size ≤ cap
    · have hr := run_append_room_strM (P := Try.prog) w 23 9 ty 5 i Try.underlying23 Try.underlying9 hi hz1 g l.length cap cur fz hg hfz s hroom (by omega)
      refine ⟨_, _, hr, .inr ⟨g, cap, _, fz, by rw [List.length_append, hsl], hB, setRow_heap w g cur _ _ _ hg, ?_, by rw [List.length_append, hsl]; exact hroom, h2, ?_, ?_⟩, ⟨rfl, rfl, rfl, by simp, fun k _ hk => setRow_other w g k _ (fun e => hk (by simp [Value.ownBlock, e]))⟩⟩
      · simp only [List.size_toArray, List.length_append, List.length_take, List.length_drop, Array.length_toList, strCells_length]
        rcases hfz with h | h
        · exact .inl h
        · right; omega
      · simp only [List.size_toArray, List.length_append, List.length_take, List.length_drop, Array.length_toList, strCells_length]
        omega
      · rw [h4, bytesV_app, strCells_bytesV, show (l ++ s.data.toList).length = (bytesV l ++ bytesV s.data.toList).length by rw [List.length_append, List.length_append, bytesV_len, bytesV_len]]
        exact List.take_left
    · have holds : ∀ j u, (bytesV l)[j]? = some u → w.cell? ((⟨g, 0, none⟩ : Addr).add j) = some u := fun j u hu => by
        have hj : j < l.length := by have := (List.getElem?_eq_some_iff.1 hu).1; rwa [bytesV_len] at this
        rw [add_plain, cell_of_row w g j cur _ fz hg, ← hu, ← h4, List.getElem?_take, if_pos hj, Array.getElem?_toList]
      have hr := run_append_grow_string (P := Try.prog) w 23 9 ty 5 i _ Try.underlying23 Try.underlying9 hi hz0 ⟨g, 0, none⟩ l.length cap (bytesV l) (by rw [bytesV_len, hz1, Nat.mul_one]) holds s (by omega) (by omega) (by rw [hz2]; exact growslice_fits (by omega) (by omega))
      have hge := grownCap_ge w (l.length + s.size) cap 5
      have hcm2 : grownCap w (l.length + s.size) cap 5 ≤ maxLen := grownCap_le_maxLen w (l.length + s.size) cap 5 (by simp only [maxLen]; omega)
      refine ⟨_, _, hr, .inr ⟨w.heap.size, _, _, (0, 0), by rw [List.length_append, hsl], hbase, heap_alloc_new w.drew _, .inl rfl, by rw [List.length_append, hsl]; omega, hcm2, ?_, ?_⟩, ⟨rfl, rfl, rfl, by simp, fun k hk _ => Below.heap_alloc w.drew _ k hk⟩⟩
      · simp only [Array.size_append, List.size_toArray, size_zeroCells, bytesV_len, strCells_length]
        have : (Value.int IntKind.u8 0).cells.size = 1 := rfl
        rw [this, Nat.mul_one]
        omega
      · simp only [Array.toList_append, List.append_assoc]
        rw [bytesV_app, ← List.append_assoc, strCells_bytesV, show (l ++ s.data.toList).length = (bytesV l ++ bytesV s.data.toList).length by rw [List.length_append, List.length_append, bytesV_len, bytesV_len]]
        exact List.take_left

/-- append(b, x): the byte lies in a block of its own. -/
theorem run_app1 {w : World} (ty : TypeId) {B : Nat} {v : Value} {l : List UInt8} (hown : OwnN w B v l) (ad : Addr) (c : Nat) (x : UInt8) (hx : w.cell? ad = some (.int .u8 (bv x))) (hb : l.length + 1 ≤ 140737488355328) (hbase : B ≤ w.heap.size) :
    ∃ v' w', (Builtin.append_ #[23, 23] ty #[v, .slice (some ad) 1 c]).run Try.prog w = .ok v' w' ∧ OwnN w' B v' (l ++ [x]) ∧ w.grownBy w' v.ownBlock := by
  obtain ⟨i, hi, hz0, hz1, hz2⟩ := info_parts byte_info
  rcases hown with ⟨rfl, rfl⟩ | hown
  · obtain ⟨v', w', hr, h2, h3, _⟩ := GR.run_append_any (P := Try.prog) w B 23 ty 5 i _ 1 1 Try.underlying23 hi hz0 hz1 hz2 rfl (by omega) (.slice none 0 0) 0 [] ⟨by simp, .inl ⟨rfl, rfl⟩⟩ w.heap.size (some ad) 1 c (bytesV [x]) ⟨by simp [bytesV], fun _ => ⟨ad, rfl, World.block_lt_of_cell? w _ hx, fun j u hu => by
      match j, hu with
      | 0, hu =>
        have e0 : ad.add 0 = ad := by simp [Addr.add]
        rw [e0, hx]
        simpa [bytesV] using hu⟩⟩ (bytesV_one [x]) (by simp [maxLen]) (by omega) hbase
    exact ⟨v', w', hr, OwnN.of_own (by simpa using h2), h3⟩
  · obtain ⟨v', w', hr, h2, h3⟩ := run_append_ownM ty hown ad 1 c [x] rfl (fun j hj => by
      obtain rfl : j = 0 := by omega
      have e0 : ad.add 0 = ad := by simp [Addr.add]
      rw [e0, hx]
      rfl) hb hbase
    exact ⟨v', w', hr, .inr h2, h3⟩
end Go.Proofs.Ytejodabmddcanaa

namespace Go.Proofs.Ytejodabmddcanaa
open Go.RowKit

def uintU (v : Nat) : List UInt8 := if v < 128 then [UInt8.ofNat v] else UInt8.ofNat (v % 128 + 128) :: uintU (v / 128)
termination_by v
decreasing_by omega
theorem uintU_small {v : Nat} (h : v < 128) : uintU v = [UInt8.ofNat v] := by rw [uintU, if_pos h]
theorem uintU_big {v : Nat} (h : ¬ v < 128) : uintU v = UInt8.ofNat (v % 128 + 128) :: uintU (v / 128) := by rw [uintU, if_neg h]
theorem uintU_len : ∀ (n v : Nat), v < 128 ^ (n + 1) → (uintU v).length ≤ n + 1
  | 0, v, h => by rw [uintU_small (by simpa using h)]; simp
  | n + 1, v, h => by
    by_cases hv : v < 128
    · rw [uintU_small hv]; simp
    · have := uintU_len n (v / 128) (by rw [Nat.pow_succ] at h; omega)
      rw [uintU_big hv, List.length_cons]; omega
theorem uintU_len10 {v : Nat} (h : v < 18446744073709551616) : (uintU v).length ≤ 10 := uintU_len 9 v (Nat.lt_of_lt_of_le h (by decide))
def textU (s : ByteArray) : List UInt8 := uintU s.size ++ s.data.toList

theorem ownN_str {w : World} {B : Nat} {v : Value} {l : List UInt8} (h : OwnN w B v l) : (convert 23 9 v).run Try.prog w = .ok (.string ⟨l.toArray⟩) w := by
  rcases h with ⟨rfl, rfl⟩ | h
  · rw [run_convert_bytes_string w 23 9 5 none 0 0 Try.underlying23 Try.underlying5 Try.underlying9]
    rfl
  · obtain ⟨g, cap, rfl, _, _, _, hc⟩ := h.form
    refine run_convert_bytes_back w 23 9 5 ⟨g, 0, none⟩ cap l Try.underlying23 Try.underlying5 Try.underlying9 (fun j hj => ?_)
    rw [add_plain, hc j hj, List.getD_eq_getElem?_getD, List.getElem?_eq_getElem hj]
    rfl

section
variable {ops : Array Oper} {rest : List Oper} {o : Oper} {a : Act} {Q : Exit → Act → World → Prop}
theorem app1 {W : World} (hgd : o.guard = none) (s x : Operand) (ho : o.op = .call { callee := .builtin .append, args := #[s, x], argTypes := #[23, 23] })
    (B : Nat) (v : Value) (l : List UInt8) (hs : a.eval s = v) (hown : OwnN W B v l) (n : Int) (x8 : UInt8) (hx : a.eval x = .slice (some ⟨W.heap.size, 0, none⟩) 1 1) (hn : n = bv x8) (hb : l.length + 1 ≤ 140737488355328) (hbase : B ≤ W.heap.size)
    (h : ∀ v' w', OwnN w' B v' (l ++ [x8]) → W.grownBy w' v.ownBlock → wpList Try.prog ops Q rest (a.put o.dst v') w') : wpList Try.prog ops Q (o :: rest) a (W.alloc (.cells #[.int .u8 n] 5)) := by
  refine wpList_plain hgd fun K hK => ?_
  have hc : (W.alloc (.cells #[.int .u8 n] 5)).cell? ⟨W.heap.size, 0, none⟩ = some (.int .u8 (bv x8)) := by
    rw [cell_of_row _ W.heap.size 0 #[.int .u8 n] 5 (0, 0) (heap_alloc_new W _), hn]; rfl
  obtain ⟨v', w', hr, h2, h3⟩ := run_app1 o.type (hown.alloc (.cells #[.int .u8 n] 5)) ⟨W.heap.size, 0, none⟩ 1 x8 hc hb (by simp; omega)
  unfold Oper.wp execOp
  simp only [ho, resolve, invoke, builtin, Sem.run_bind, Sem.run_pure, Result.andThen_ok, List.map_toArray, List.map_cons, List.map_nil, hs, hx, hr]
  exact hK _ _ (h v' w' h2 (GR.grown_step (GR.grown_of_bl ((Below.refl _ _).alloc (Nat.le_refl _) _) v.ownBlock) h3 (.inl rfl)))
theorem appS {w : World} (hgd : o.guard = none) (s x : Operand) (ho : o.op = .call { callee := .builtin .append, args := #[s, x], argTypes := #[23, 9] })
    (B : Nat) (v : Value) (l : List UInt8) (hs : a.eval s = v) (hown : OwnN w B v l) (t : ByteArray) (hx : a.eval x = .string t) (hb : l.length + t.size ≤ 140737488355328) (hbase : B ≤ w.heap.size)
    (h : ∀ v' w', OwnN w' B v' (l ++ t.data.toList) → w.grownBy w' v.ownBlock → wpList Try.prog ops Q rest (a.put o.dst v') w') : wpList Try.prog ops Q (o :: rest) a w := by
  refine wpList_plain hgd fun K hK => ?_
  obtain ⟨v', w', hr, h2, h3⟩ := run_appS o.type hown t hb hbase
  unfold Oper.wp execOp
  simp only [ho, resolve, invoke, builtin, Sem.run_bind, Sem.run_pure, Result.andThen_ok, List.map_toArray, List.map_cons, List.map_nil, hs, hx, hr]
  exact hK _ _ (h v' w' h2 h3)
end

set_option maxRecDepth 100000 in
set_option maxHeartbeats 3200000 in
theorem refUint_any (v : Nat) (hv : v < 18446744073709551616) (w : World) :
    Calls Try.prog 90 #[.int .u64 v] w fun e w' => e = .returned (.string ⟨(uintU v).toArray⟩) ∧ Below w.heap.size w w' := by
  have hl10 := uintU_len10 hv
  go_enter Try.func90, Try.ntmps90
  go_wp2
  go_loopw [0, 3] (fun x0 b0 w' => ∃ (k : Nat) (b : Value) (acc : List UInt8), x0 = .int .u64 k ∧ b = b0 ∧ k < 18446744073709551616 ∧ Hid (acc ++ uintU k = uintU v) ∧ Hid (OwnN w' w.heap.size b acc) ∧ Hid (Below w.heap.size w w')) (fun x0 _ _ => (intOf x0).toNat)
  case atStart => exact ⟨v, _, [], rfl, rfl, hv, Lib.hid (by simp), Lib.hid (OwnN.nil _ _), Lib.hid (Below.refl _ _)⟩
  case round =>
    obtain ⟨k, b, acc, rfl, rfl, hk, hE, ho, hb⟩ := hrel
    have hsz := hb.out.size
    by_cases hlt : k < 128
    · have hal : acc.length + 1 ≤ 10 := by
        have h9 := congrArg List.length hE.out
        rw [uintU_small hlt] at h9
        simp at h9; omega
      have t1 : decide ((128 : Int) ≤ (k : Int)) = false := by simp; omega
      have t2 : decide (128 ≤ k) = false := by simp; omega
      have t3 : decide (k < 128) = true := by simp; omega
      go_wp2_with (at_builtin; refine app1 rfl (.tmp 15) (.tmp 18) rfl w.heap.size b acc rfl ho.out _ (UInt8.ofNat k) rfl (by unfold bv; rw [UInt8.toNat_ofNat']; first | omega | (rw [IntKind.wrap_u8]; omega)) (by omega) hsz ?_; intro v3 w3 ho_ hg_; have HO3 := Lib.hid ho_; have HB3 := Lib.hid (bl_of_grown hb.out hg_ (fun b hb => (ho.out.lt b hb).1)); have hcv := ownN_str ho_; clear ho_ hg_)
      go_ret
      exact ⟨ret_str (by rw [← hE.out, uintU_small hlt]), HB3.out⟩
    · have hal : acc.length + 1 ≤ 10 := by
        have h9 := congrArg List.length hE.out
        rw [uintU_big hlt] at h9
        simp at h9; omega
      have t1 : decide ((128 : Int) ≤ (k : Int)) = true := by simp; omega
      have t2 : decide (128 ≤ k) = true := by simp; omega
      have t3 : decide (k < 128) = false := by simp; omega
      go_wp2_with (at_builtin; refine app1 rfl (.tmp 6) (.tmp 11) rfl w.heap.size b acc rfl ho.out _ (UInt8.ofNat (k % 128 + 128)) rfl (by unfold bv; rw [UInt8.toNat_ofNat']; first | omega | (rw [IntKind.wrap_u8]; omega)) (by omega) hsz ?_; intro v3 w3 ho_ hg_; have HO3 := Lib.hid ho_; have HB3 := Lib.hid (bl_of_grown hb.out hg_ (fun b hb => (ho.out.lt b hb).1)); clear ho_ hg_)
      go_roundw
      case rel => exact ⟨k / 128, _, _, by go_num, rfl, by omega, Lib.hid (by rw [← hE.out, uintU_big hlt, List.append_assoc]; rfl), HO3, HB3⟩
      case measure => simp [intOf]; omega

theorem strApp (s : ByteArray) (l : List UInt8) : (⟨l.toArray⟩ ++ s : ByteArray) = ⟨(l ++ s.data.toList).toArray⟩ := by
  have : ∀ a b : ByteArray, a ++ b = ⟨a.data ++ b.data⟩ := fun a b => by
    show ByteArray.append a b = _
    apply ByteArray.ext
    simp
  rw [this]
  simp
theorem refText_any (s : ByteArray) (hs : s.size ≤ 140737488355328) (w : World) :
    Calls Try.prog 91 #[.string s] w fun e w' => e = .returned (.string ⟨(textU s).toArray⟩) ∧ Below w.heap.size w w' := by
  have hl10 := uintU_len10 (show s.size < 18446744073709551616 by omega)
  have hcat : ∀ W, (Op.stringOp .add ⟨(uintU s.size).toArray⟩ s).run Try.prog W = .ok (.string (⟨(uintU s.size).toArray⟩ ++ s)) W := fun W => run_string_add_sum W _ _ (by show (uintU s.size).toArray.size + s.size ≤ _; simp; omega)
  go_enter Try.func91, Try.ntmps91
  go_wp2_with fail
  refine (refUint_any s.size (by omega) _).mono ?_
  rintro e w1 ⟨rfl, hb⟩
  have HB := Lib.hid hb
  clear hb
  go_wp2
  go_ret
  exact ⟨ret_str (strApp s _), HB.out⟩
end Go.Proofs.Ytejodabmddcanaa

namespace Go.Proofs.Ytejodabmddcanaa
open Go.RowKit

/-- A Writer of the call's own that holds the bytes l. -/
def Wr (w : World) (B g : Nat) (l : List UInt8) : Prop := B ≤ g ∧ ∃ v, GR.Blk w g 111 #[v] ∧ OwnN w B v l
theorem Wr.below {w w' : World} {B g : Nat} {l : List UInt8} (h : Wr w B g l) (hb : Below w.heap.size w w') : Wr w' B g l := by
  obtain ⟨h1, v, h2, h3⟩ := h
  exact ⟨h1, v, h2.below hb h2.lt, h3.below hb⟩
/-- What a Writer's act leaves: every other block that holds no bytes. -/
def Kp (w w' : World) (g : Nat) : Prop := ∀ h t cs, GR.Blk w h t cs → 5 ≠ t → h ≠ g → GR.Blk w' h t cs
theorem Kp.refl (w : World) (g : Nat) : Kp w w g := fun _ _ _ h _ _ => h
theorem Kp.trans {a b c : World} {g : Nat} (h : Kp a b g) (k : Kp b c g) : Kp a c g := fun x t cs h1 h2 h3 => k x t cs (h x t cs h1 h2 h3) h2 h3
theorem kp_app {w w3 : World} {B g : Nat} {v u : Value} {l : List UInt8} (ho : OwnN w B v l) (hg : w.grownBy w3 v.ownBlock) : Kp w (w3.setCell ⟨g, 0, none⟩ u) g :=
  fun _ _ _ b0 ht hne => (b0.grown hg (Ne.symm (ho.ne_blk b0 ht))).far hne _
theorem newWriter_any (w : World) :
    Calls Try.prog 71 #[] w fun e w' => e = .returned (.pointer (some ⟨w.heap.size, 0, none⟩)) ∧ Wr w' w.heap.size w.heap.size [] ∧ Below w.heap.size w w' := by
  go_enter Try.func71, Try.ntmps71
  go_wp2
  go_ret
  exact ⟨rfl, ⟨Nat.le_refl _, _, GR.Blk.new _ _ _, OwnN.nil _ _⟩, (Below.refl _ _).alloc (Nat.le_refl _) _⟩
theorem told_any (B g : Nat) (l : List UInt8) (w : World) (hw : Wr w B g l) :
    Calls Try.prog 76 #[.pointer (some ⟨g, 0, none⟩)] w fun e w' => e = .returned (.string ⟨l.toArray⟩) ∧ w = w' := by
  obtain ⟨_, v, bg, ho⟩ := hw
  have c0 : w.cell? ⟨g, 0, none⟩ = some v := bg.cell 0
  have hcv := ownN_str ho
  clear bg ho
  go_enter Try.func76, Try.ntmps76
  go_wp2
  go_ret
  exact ⟨rfl, rfl⟩

set_option maxRecDepth 100000 in
set_option maxHeartbeats 3200000 in
theorem byte_any (B g : Nat) (l : List UInt8) (n : Int) (x : UInt8) (w : World) (hw : Wr w B g l) (hn : n = bv x) (hl : l.length + 1 ≤ 140737488355328) :
    Calls Try.prog 72 #[.pointer (some ⟨g, 0, none⟩), .int .u8 n] w fun e w' => e = .returned (.tuple #[]) ∧ Wr w' B g (l ++ [x]) ∧ Below B w w' := by
  subst hn
  obtain ⟨hB, v, bg, ho⟩ := hw
  have c0 : w.cell? ⟨g, 0, none⟩ = some v := bg.cell 0
  have f0 := bg.frozen 0
  have lg := bg.lt
  have ng : g ≠ w.heap.size := Nat.ne_of_lt lg
  have BG := Lib.hid bg
  have HO := Lib.hid ho
  have hBw : B ≤ w.heap.size := Nat.le_trans hB (Nat.le_of_lt lg)
  clear bg ho
  go_enter Try.func72, Try.ntmps72
  go_wp2_with (at_builtin; refine app1 rfl (.tmp 10) (.tmp 12) rfl B v l rfl HO.out _ x rfl rfl hl hBw ?_; intro v3 w3 ho_ hg_; obtain ⟨A3, n3, c3, rfl⟩ := ho_.slice'; have B3 : Hid (GR.Blk w3 g 111 #[v]) := Lib.hid (BG.out.grown hg_ (Ne.symm (HO.out.ne_blk BG.out (by decide)))); have HO3 := Lib.hid ho_; have HB3 := Lib.hid ((Below.refl B w).grown hg_ hBw (fun b hb => (HO.out.lt b hb).1)); clear ho_ hg_; have d0 : w3.cell? ⟨g, 0, none⟩ = some v := B3.out.cell 0; have d1 := B3.out.frozen 0)
  go_end0
  exact ⟨rfl, ⟨hB, _, B3.out.set_ 0 _, HO3.out.set_ (HO3.out.ne_blk (t := 111) B3.out (by decide)) _⟩, HB3.out.setCell hB _⟩

set_option maxRecDepth 100000 in
set_option maxHeartbeats 3200000 in
theorem raw_any (B g : Nat) (l : List UInt8) (s : ByteArray) (w : World) (hw : Wr w B g l) (hl : l.length + s.size ≤ 140737488355328) :
    Calls Try.prog 92 #[.pointer (some ⟨g, 0, none⟩), .string s] w fun e w' => e = .returned (.tuple #[]) ∧ Wr w' B g (l ++ s.data.toList) ∧ Below B w w' ∧ Kp w w' g := by
  obtain ⟨hB, v, bg, ho⟩ := hw
  have c0 : w.cell? ⟨g, 0, none⟩ = some v := bg.cell 0
  have f0 := bg.frozen 0
  have lg := bg.lt
  have BG := Lib.hid bg
  have HO := Lib.hid ho
  have hBw : B ≤ w.heap.size := Nat.le_trans hB (Nat.le_of_lt lg)
  clear bg ho
  go_enter Try.func92, Try.ntmps92
  go_wp2_with (at_builtin; refine appS rfl (.tmp 10) (.tmp 11) rfl B v l rfl HO.out s rfl hl hBw ?_; intro v3 w3 ho_ hg_; obtain ⟨A3, n3, c3, rfl⟩ := ho_.slice'; have B3 : Hid (GR.Blk w3 g 111 #[v]) := Lib.hid (BG.out.grown hg_ (Ne.symm (HO.out.ne_blk BG.out (by decide)))); have HO3 := Lib.hid ho_; have HB3 := Lib.hid ((Below.refl B w).grown hg_ hBw (fun b hb => (HO.out.lt b hb).1)); have HG3 := Lib.hid hg_; clear ho_ hg_; have d0 : w3.cell? ⟨g, 0, none⟩ = some v := B3.out.cell 0; have d1 := B3.out.frozen 0)
  go_end0
  exact ⟨rfl, ⟨hB, _, B3.out.set_ 0 _, HO3.out.set_ (HO3.out.ne_blk (t := 111) B3.out (by decide)) _⟩, HB3.out.setCell hB _, kp_app HO.out HG3.out⟩

theorem or128 (k : Nat) : bits .or .u8 ((k : Int) % 256) 128 = ((k % 128 + 128 : Nat) : Int) := by
  rw [u8_or _ _ (by omega) (by omega) (by decide) (by decide)]
  have h1 : ((k : Int) % 256).toNat = k % 256 := by omega
  have h2 : ∀ n : Fin 256, n.val ||| 128 = n.val % 128 + 128 := by decide +kernel
  have h3 := h2 ⟨k % 256, by omega⟩
  rw [h1]
  show (((k % 256) ||| 128 : Nat) : Int) = _
  rw [h3]
  show ((k % 256 % 128 + 128 : Nat) : Int) = _
  omega
set_option maxRecDepth 100000 in
set_option maxHeartbeats 3200000 in
theorem uint_any (B g : Nat) (l : List UInt8) (v : Nat) (hv : v < 18446744073709551616) (w : World) (hw : Wr w B g l) (hl : l.length + 10 ≤ 140737488355328) :
    Calls Try.prog 74 #[.pointer (some ⟨g, 0, none⟩), .int .u64 v] w fun e w' => e = .returned (.tuple #[]) ∧ Wr w' B g (l ++ uintU v) ∧ Below B w w' ∧ Kp w w' g := by
  have hl10 := uintU_len10 hv
  have HW := Lib.hid hw
  have hB : B ≤ g := hw.1
  have hBw : B ≤ w.heap.size := by obtain ⟨h1, _, h2, _⟩ := hw; have := h2.lt; omega
  clear hw
  go_enter Try.func74, Try.ntmps74
  go_wp2
  go_loopw [1] (fun x0 w' => ∃ (k : Nat) (acc : List UInt8), x0 = .int .u64 k ∧ k < 18446744073709551616 ∧ Hid (acc ++ uintU k = uintU v) ∧ Hid (Wr w' B g (l ++ acc)) ∧ Hid (Below B w w') ∧ Hid (Kp w w' g)) (fun x0 _ => (intOf x0).toNat)
  case atStart => exact ⟨v, [], rfl, hv, Lib.hid (by simp), Lib.hid (by rw [List.append_nil]; exact HW.out), Lib.hid (Below.refl _ _), Lib.hid (Kp.refl _ _)⟩
  case round =>
    obtain ⟨k, acc, rfl, hk, hE, hW, hb, hkp⟩ := hrel
    have hsz := hb.out.size
    obtain ⟨_, vv, bg, ho⟩ := hW.out
    have c0 : wr.cell? ⟨g, 0, none⟩ = some vv := bg.cell 0
    have f0 := bg.frozen 0
    have lg := bg.lt
    have ng : g ≠ wr.heap.size := Nat.ne_of_lt lg
    have BG := Lib.hid bg
    have HO := Lib.hid ho
    have hBr : B ≤ wr.heap.size := Nat.le_trans hB (Nat.le_of_lt lg)
    clear bg ho hW
    by_cases hlt : k < 128
    · have hal : acc.length + 1 ≤ 10 := by
        have h9 := congrArg List.length hE.out
        rw [uintU_small hlt] at h9
        simp at h9; omega
      have hal2 : (l ++ acc).length + 1 ≤ 140737488355328 := by simp; omega
      have t1 : decide ((128 : Int) ≤ (k : Int)) = false := by simp; omega
      have t2 : decide (128 ≤ k) = false := by simp; omega
      have t3 : decide (k < 128) = true := by simp; omega
      go_wp2_with (at_builtin; refine app1 rfl (.tmp 26) (.tmp 29) rfl B vv (l ++ acc) rfl HO.out _ (UInt8.ofNat k) rfl (by unfold bv; rw [UInt8.toNat_ofNat']; first | omega | (rw [IntKind.wrap_u8]; omega)) hal2 hBr ?_; intro v3 w3 ho_ hg_; obtain ⟨A3, n3, c3, rfl⟩ := ho_.slice'; have B3 : Hid (GR.Blk w3 g 111 #[vv]) := Lib.hid (BG.out.grown hg_ (Ne.symm (HO.out.ne_blk BG.out (by decide)))); have HO3 := Lib.hid ho_; have HB3 := Lib.hid (hb.out.grown hg_ hBr (fun b hb => (HO.out.lt b hb).1)); have HG3 := Lib.hid hg_; clear ho_ hg_; have d0 : w3.cell? ⟨g, 0, none⟩ = some vv := B3.out.cell 0; have d1 := B3.out.frozen 0)
      go_end0
      have hF : l ++ uintU v = l ++ acc ++ [UInt8.ofNat k] := by rw [← hE.out, uintU_small hlt, List.append_assoc]
      rw [hF]
      exact ⟨rfl, ⟨hB, _, B3.out.set_ 0 _, HO3.out.set_ (HO3.out.ne_blk (t := 111) B3.out (by decide)) _⟩, HB3.out.setCell hB _, hkp.out.trans (kp_app HO.out HG3.out)⟩
    · have hal : acc.length + 1 ≤ 10 := by
        have h9 := congrArg List.length hE.out
        rw [uintU_big hlt] at h9
        simp at h9; omega
      have hal2 : (l ++ acc).length + 1 ≤ 140737488355328 := by simp; omega
      have t1 : decide ((128 : Int) ≤ (k : Int)) = true := by simp; omega
      have t2 : decide (128 ≤ k) = true := by simp; omega
      have t3 : decide (k < 128) = false := by simp; omega
      have t4 := or128 k
      go_wp2_with (at_builtin; refine app1 rfl (.tmp 12) (.tmp 16) rfl B vv (l ++ acc) rfl HO.out _ (UInt8.ofNat (k % 128 + 128)) rfl (by unfold bv; rw [UInt8.toNat_ofNat']; first | omega | (rw [IntKind.wrap_u8]; omega) | (rw [or128]; omega) | (rw [IntKind.wrap_u8, or128]; omega)) hal2 hBr ?_; intro v3 w3 ho_ hg_; obtain ⟨A3, n3, c3, rfl⟩ := ho_.slice'; have B3 : Hid (GR.Blk w3 g 111 #[vv]) := Lib.hid (BG.out.grown hg_ (Ne.symm (HO.out.ne_blk BG.out (by decide)))); have HO3 := Lib.hid ho_; have HB3 := Lib.hid (hb.out.grown hg_ hBr (fun b hb => (HO.out.lt b hb).1)); have HG3 := Lib.hid hg_; clear ho_ hg_; have d0 : w3.cell? ⟨g, 0, none⟩ = some vv := B3.out.cell 0; have d1 := B3.out.frozen 0)
      go_roundw
      case rel => exact ⟨k / 128, acc ++ [UInt8.ofNat (k % 128 + 128)], by go_num, by omega, Lib.hid (by rw [← hE.out, uintU_big hlt, List.append_assoc]; rfl), Lib.hid (by rw [← List.append_assoc]; exact ⟨hB, _, B3.out.set_ 0 _, HO3.out.set_ (HO3.out.ne_blk (t := 111) B3.out (by decide)) _⟩), Lib.hid (HB3.out.setCell hB _), Lib.hid (hkp.out.trans (kp_app HO.out HG3.out))⟩
      case measure => simp [intOf]; omega

theorem wtext_any (B g : Nat) (l : List UInt8) (s : ByteArray) (w : World) (hw : Wr w B g l) (hl : l.length + 10 + s.size ≤ 140737488355328) :
    Calls Try.prog 75 #[.pointer (some ⟨g, 0, none⟩), .string s] w fun e w' => e = .returned (.tuple #[]) ∧ Wr w' B g (l ++ textU s) ∧ Below B w w' ∧ Kp w w' g := by
  have hl10 := uintU_len10 (show s.size < 18446744073709551616 by omega)
  have HW := Lib.hid hw
  clear hw
  go_enter Try.func75, Try.ntmps75
  go_wp2_with fail
  refine (uint_any B g l s.size (by omega) _ HW.out (by omega)).mono ?_
  rintro e w1 ⟨rfl, hw1, hb1, hk1⟩
  have HW1 := Lib.hid hw1
  have HB1 := Lib.hid hb1
  have HK1 := Lib.hid hk1
  clear hw1 hb1 hk1
  go_wp2_with fail
  refine (raw_any B g _ s _ HW1.out (by simp; omega)).mono ?_
  rintro e w2 ⟨rfl, hw2, hb2, hk2⟩
  have HW2 := Lib.hid hw2
  have HB2 := Lib.hid (HB1.out.trans hb2)
  have HK2 := Lib.hid (HK1.out.trans hk2)
  clear hw2 hb2 hk2
  go_wp2
  go_end0
  exact ⟨rfl, by rw [textU, ← List.append_assoc]; exact HW2.out, HB2.out, HK2.out⟩
end Go.Proofs.Ytejodabmddcanaa

namespace Go.Proofs.Ytejodabmddcanaa
open Go.RowKit

def fix2 (v : Nat) : List UInt8 := [UInt8.ofNat (v / 256), UInt8.ofNat v]
theorem fix2_str (v : Nat) : strOfNums (fixL v 2) = ⟨(fix2 v).toArray⟩ := by
  have h : ∀ n : Nat, UInt8.ofNat (n % 256) = UInt8.ofNat n := fun n => UInt8.toNat.inj (by simp)
  simp [strOfNums, fixL, fix2, fixD, bv, List.range, List.range.loop]
  refine ⟨?_, ?_⟩
  · rw [show ((v : Int) / 256 % 256).toNat = (v / 256) % 256 by omega]; exact h _
  · rw [show ((v : Int) % 256).toNat = v % 256 by omega]; exact h _
section
variable {ops : Array Oper} {o : Oper} {a : Act} {K : Act → World → Prop} {Q : Exit → Act → World → Prop} {E : Prop}
theorem step_app1 {w : World} (hgd : o.guard = none) (s x : Operand) (ho : o.op = .call { callee := .builtin .append, args := #[s, x], argTypes := #[23, 23] })
    (B : Nat) (v : Value) (l : List UInt8) (hs : a.eval s = v) (hown : OwnN w B v l) (ad : Addr) (c : Nat) (x8 : UInt8) (hx : a.eval x = .slice (some ad) 1 c) (hc : w.cell? ad = some (.int .u8 (bv x8))) (hb : l.length + 1 ≤ 140737488355328) (hbase : B ≤ w.heap.size)
    (h : ∀ v' w', OwnN w' B v' (l ++ [x8]) → w.grownBy w' v.ownBlock → K (a.put o.dst v') w') :
    if Region.wanted o (yielded ops a.tmps) = true then Oper.wp Try.prog o a w K Q else E := by
  have hw : Region.wanted o (yielded ops a.tmps) = true := by simp [Region.wanted, hgd]
  rw [if_pos hw]
  obtain ⟨v', w', hr, h2, h3⟩ := run_app1 o.type hown ad c x8 hc hb hbase
  unfold Oper.wp execOp
  simp only [ho, resolve, invoke, builtin, Sem.run_bind, Sem.run_pure, Result.andThen_ok, List.map_toArray, List.map_cons, List.map_nil, hs, hx, hr]
  exact h v' w' h2 h3
end

set_option maxRecDepth 100000 in
set_option maxHeartbeats 3200000 in
theorem fixed2_any (B g : Nat) (l : List UInt8) (v : Nat) (hv : v < 65536) (w : World) (hw : Wr w B g l) (hl : l.length + 2 ≤ 140737488355328) :
    Calls Try.prog 73 #[.pointer (some ⟨g, 0, none⟩), .int .u64 v, .int .i64 2] w fun e w' => e = .returned (.int .i64 0) ∧ Wr w' B g (l ++ fix2 v) ∧ Below B w w' := by
  have q8 : IntKind.i64.wrap 8 = 8 := by decide
  have q0 : IntKind.i64.wrap 0 = 0 := by decide
  have HW := Lib.hid hw
  have hB : B ≤ g := hw.1
  have hBw : B ≤ w.heap.size := by obtain ⟨h1, _, h2, _⟩ := hw; have := h2.lt; omega
  have s0 : ((v : Int) / 65536) = 0 := by omega
  have s1 : v / 65536 = 0 := by omega
  clear hw
  go_enter Try.func73, Try.ntmps73
  go_wp2
  go_loopw [2] (fun x0 w' => ∃ (m : Nat), m ≤ 2 ∧ x0 = .int .i64 ((m : Int) - 1) ∧ Hid (Wr w' B g (l ++ (fix2 v).take (2 - m))) ∧ Hid (Below B w w')) (fun x0 _ => (intOf x0 + 1).toNat)
  case atStart => exact ⟨2, Nat.le_refl _, rfl, Lib.hid (by simpa using HW.out), Lib.hid (Below.refl _ _)⟩
  case round =>
    obtain ⟨m, hm, rfl, hW, hb⟩ := hrel
    have hsz := hb.out.size
    obtain ⟨_, vv, bg, ho⟩ := hW.out
    have c0 : wr.cell? ⟨g, 0, none⟩ = some vv := bg.cell 0
    have f0 := bg.frozen 0
    have lg := bg.lt
    have ng : g ≠ wr.heap.size := Nat.ne_of_lt lg
    have BG := Lib.hid bg
    have HO := Lib.hid ho
    have hBr : B ≤ wr.heap.size := Nat.le_trans hB (Nat.le_of_lt lg)
    have HW0 := hW
    clear bg ho hW
    match m, hm with
    | 0, _ =>
      go_wp2
      go_ret
      exact ⟨rfl, by have h9 := HW0.out; simpa [fix2] using h9, hb.out⟩
    | 1, _ =>
      have HV := Lib.hid (show IntKind.u8.wrap (v : Int) = bv (UInt8.ofNat v) by unfold bv; rw [UInt8.toNat_ofNat', IntKind.wrap_u8]; omega)
      go_wp2
      refine wp_region_held_drew (S := fun _ => True) (by kernel_rfl) ?_ (fun hHeld => ?_)
      · trivial
      refine wpAnyH_take (i := 0) (oi := { dst := some 32, op := Op.move (Operand.tmp 0), type := 90, pos := "wire.go:45", after := #[], guard := none }) (v := ?_) rfl (by kernel_rfl) (by kernel_rfl) (by kernel_rfl) (fun _ _ _ h => h) (Or.inl ⟨by rfl, ?_⟩) (by assumption) ?_
      rotate_left
      · intro w_ hSw
        (try dsimp only at hSw)
        go_simp
        first | done | with_reducible rfl
      try simp only [Act.put, List.setIfInBounds_toArray, List.set_cons_zero, List.set_cons_succ]
      refine wpAnyH_take (i := 1) (oi := { dst := some 33, op := Op.move (Operand.tmp 0), type := 90, pos := "wire.go:45", after := #[], guard := none }) (v := ?_) rfl (by kernel_rfl) (by kernel_rfl) (by kernel_rfl) (fun _ _ _ h => h) (Or.inl ⟨by rfl, ?_⟩) (by assumption) ?_
      rotate_left
      · intro w_ hSw
        (try dsimp only at hSw)
        go_simp
        first | done | with_reducible rfl
      try simp only [Act.put, List.setIfInBounds_toArray, List.set_cons_zero, List.set_cons_succ]
      refine wpAnyH_take (i := 2) (oi := { dst := some 34, op := Op.nilCheck (Operand.tmp 33), type := 0, pos := "wire.go:45", after := #[{ on := 1, ground := Ground.data }], guard := none }) (v := ?_) rfl (by kernel_rfl) (by kernel_rfl) (by kernel_rfl) (fun _ _ _ h => h) (Or.inl ⟨by rfl, ?_⟩) (by assumption) ?_
      rotate_left
      · intro w_ hSw
        (try dsimp only at hSw)
        go_simp
        first | done | with_reducible rfl
      try simp only [Act.put, List.setIfInBounds_toArray, List.set_cons_zero, List.set_cons_succ]
      refine wpAnyH_take (i := 3) (oi := { dst := some 35, op := Op.fieldAddr 111 (Operand.tmp 34) 0, type := 0, pos := "wire.go:45", after := #[{ on := 2, ground := Ground.data }], guard := none }) (v := ?_) rfl (by kernel_rfl) (by kernel_rfl) (by kernel_rfl) (fun _ _ _ h => h) (Or.inl ⟨by rfl, ?_⟩) (by assumption) ?_
      rotate_left
      · intro w_ hSw
        (try dsimp only at hSw)
        go_simp
        first | done | with_reducible rfl
      try simp only [Act.put, List.setIfInBounds_toArray, List.set_cons_zero, List.set_cons_succ]
      refine wpAnyH_take (i := 5) (oi := { dst := some 37, op := Op.move (Operand.tmp 1), type := 82, pos := "wire.go:45", after := #[], guard := none }) (v := ?_) rfl (by kernel_rfl) (by kernel_rfl) (by kernel_rfl) (fun _ _ _ h => h) (Or.inl ⟨by rfl, ?_⟩) (by assumption) ?_
      rotate_left
      · intro w_ hSw
        (try dsimp only at hSw)
        go_simp
        first | done | with_reducible rfl
      try simp only [Act.put, List.setIfInBounds_toArray, List.set_cons_zero, List.set_cons_succ]
      refine wpAnyH_take (i := 6) (oi := { dst := some 38, op := Op.move (Operand.tmp 2), type := 3, pos := "wire.go:45", after := #[], guard := none }) (v := ?_) rfl (by kernel_rfl) (by kernel_rfl) (by kernel_rfl) (fun _ _ _ h => h) (Or.inl ⟨by rfl, ?_⟩) (by assumption) ?_
      rotate_left
      · intro w_ hSw
        (try dsimp only at hSw)
        go_simp
        first | done | with_reducible rfl
      try simp only [Act.put, List.setIfInBounds_toArray, List.set_cons_zero, List.set_cons_succ]
      refine wpAnyH_take (i := 7) (oi := { dst := some 39, op := Op.binOp BinOp.mul 3 (Operand.const (Value.int IntKind.i64 8)) (Operand.tmp 38) 3, type := 3, pos := "wire.go:45", after := #[{ on := 6, ground := Ground.data }], guard := none }) (v := ?_) rfl (by kernel_rfl) (by kernel_rfl) (by kernel_rfl) (fun _ _ _ h => h) (Or.inl ⟨by rfl, ?_⟩) (by assumption) ?_
      rotate_left
      · intro w_ hSw
        (try dsimp only at hSw)
        go_simp
        first | done | with_reducible rfl
      try simp only [Act.put, List.setIfInBounds_toArray, List.set_cons_zero, List.set_cons_succ]
      refine wpAnyH_take (i := 8) (oi := { dst := some 40, op := Op.binOp BinOp.shr 82 (Operand.tmp 37) (Operand.tmp 39) 3, type := 82, pos := "wire.go:45", after := #[{ on := 5, ground := Ground.data }, { on := 7, ground := Ground.data }], guard := none }) (v := ?_) rfl (by kernel_rfl) (by kernel_rfl) (by kernel_rfl) (fun _ _ _ h => h) (Or.inl ⟨by rfl, ?_⟩) (by assumption) ?_
      rotate_left
      · intro w_ hSw
        (try dsimp only at hSw)
        go_simp
        first | done | with_reducible rfl
      try simp only [Act.put, List.setIfInBounds_toArray, List.set_cons_zero, List.set_cons_succ]
      refine wpAnyH_take (i := 9) (oi := { dst := some 41, op := Op.convert 82 5 (Operand.tmp 40), type := 5, pos := "wire.go:45", after := #[{ on := 8, ground := Ground.data }], guard := none }) (v := ?_) rfl (by kernel_rfl) (by kernel_rfl) (by kernel_rfl) (fun _ _ _ h => h) (Or.inl ⟨by rfl, ?_⟩) (by assumption) ?_
      rotate_left
      · intro w_ hSw
        (try dsimp only at hSw)
        go_simp
        first | done | with_reducible rfl
      try simp only [Act.put, List.setIfInBounds_toArray, List.set_cons_zero, List.set_cons_succ]
      refine wpAnyH_ready (rs := [4, 10]) (by kernel_rfl) (by simp) ?_
      refine AllReadyH.cons (o := { dst := some 36, op := Op.load 23 (Operand.tmp 35), type := 23, pos := "wire.go:45", after := #[{ on := 3, ground := Ground.data }], guard := none }) rfl (fun K hK => ?_) (AllReadyH.cons (o := { dst := some 42, op := Op.buildSlice 23 1 #[(0, Operand.tmp 41)], type := 23, pos := "wire.go:45", after := #[{ on := 9, ground := Ground.data }], guard := none }) rfl (fun K hK => ?_) (AllReadyH.nil))
      · skip
        go_simp
        skip
        refine hK.out _ _ ?_ (fun hHeld => ?_)
        · trivial
        clear hK K
        try simp only [Act.put, List.setIfInBounds_toArray, List.set_cons_zero, List.set_cons_succ]
        refine wpAnyH_ready (rs := [10]) (by kernel_rfl) (by simp) ?_
        refine AllReadyH.cons (o := { dst := some 42, op := Op.buildSlice 23 1 #[(0, Operand.tmp 41)], type := 23, pos := "wire.go:45", after := #[{ on := 9, ground := Ground.data }], guard := none }) rfl (fun K hK => ?_) AllReadyH.nil
        go_simp
        skip
        refine hK.out _ _ ?_ (fun hHeld => ?_)
        · trivial
        clear hK K
        try simp only [Act.put, List.setIfInBounds_toArray, List.set_cons_zero, List.set_cons_succ]
        refine wpAnyH_ready (rs := [11]) (by kernel_rfl) (by simp) ?_
        refine AllReadyH.cons (o := { dst := some 43, op := Op.call { callee := Callee.builtin Builtin.append, args := #[Operand.tmp 36, Operand.tmp 42], argTypes := #[23, 23] }, type := 23, pos := "wire.go:45", after := #[{ on := 4, ground := Ground.data }, { on := 10, ground := Ground.data }], guard := none }) rfl (fun K hK => ?_) AllReadyH.nil
        refine step_app1 rfl (.tmp 36) (.tmp 42) rfl B vv (l ++ (fix2 v).take 1) rfl (by repeat (first | exact HO.out | refine OwnN.drewN ?_ _ | refine OwnN.drew ?_ | refine OwnN.alloc ?_ _)) ⟨wr.heap.size, 0, none⟩ 1 (UInt8.ofNat v) rfl (((GR.Blk.new _ _ _).cell 0).trans (congrArg (fun z => some (Value.int .u8 z)) HV.out)) (by simp [fix2]; omega) (by simp; omega) ?_
        intro v3 w3 ho_ hg_
        obtain ⟨A3, n3, c3, rfl⟩ := ho_.slice'
        have G3 : Hid (wr.grownBy w3 vv.ownBlock) := Lib.hid (GR.grown_step (GR.grown_of_bl (by repeat (first | exact Below.refl _ _ | refine bl_drewN ?_ _ | refine bl_drew ?_ | refine bl_alloc ?_ _)) vv.ownBlock) hg_ (.inl rfl))
        have B3 : Hid (GR.Blk w3 g 111 #[vv]) := Lib.hid (BG.out.grown G3.out (Ne.symm (HO.out.ne_blk BG.out (by decide))))
        have HO3 := Lib.hid ho_
        have HB3 := Lib.hid (hb.out.grown G3.out hBr (fun b hb => (HO.out.lt b hb).1))
        clear ho_ hg_ G3
        have d0 : w3.cell? ⟨g, 0, none⟩ = some vv := B3.out.cell 0
        have d1 := B3.out.frozen 0
        refine hK.out _ _ ?_ (fun hHeld => ?_)
        · trivial
        clear hK K
        try simp only [Act.put, List.setIfInBounds_toArray, List.set_cons_zero, List.set_cons_succ]
        refine wpAnyH_take (i := 12) (oi := { dst := some 44, op := Op.nilCheck (Operand.tmp 32), type := 0, pos := "wire.go:45", after := #[{ on := 0, ground := Ground.data }, { on := 0, ground := Ground.phase }, { on := 1, ground := Ground.phase }, { on := 2, ground := Ground.phase }, { on := 3, ground := Ground.phase }, { on := 4, ground := Ground.phase }, { on := 5, ground := Ground.phase }, { on := 6, ground := Ground.phase }, { on := 7, ground := Ground.phase }, { on := 8, ground := Ground.phase }, { on := 9, ground := Ground.phase }, { on := 10, ground := Ground.phase }, { on := 11, ground := Ground.phase }], guard := none }) (v := ?_) rfl (by kernel_rfl) (by kernel_rfl) (by kernel_rfl) (fun _ _ _ h => h) (Or.inl ⟨by rfl, ?_⟩) (by assumption) ?_
        rotate_left
        · intro w_ hSw
          (try dsimp only at hSw)
          go_simp
          first | done | with_reducible rfl
        try simp only [Act.put, List.setIfInBounds_toArray, List.set_cons_zero, List.set_cons_succ]
        refine wpAnyH_take (i := 13) (oi := { dst := some 45, op := Op.fieldAddr 111 (Operand.tmp 44) 0, type := 0, pos := "wire.go:45", after := #[{ on := 12, ground := Ground.data }, { on := 0, ground := Ground.phase }, { on := 1, ground := Ground.phase }, { on := 2, ground := Ground.phase }, { on := 3, ground := Ground.phase }, { on := 4, ground := Ground.phase }, { on := 5, ground := Ground.phase }, { on := 6, ground := Ground.phase }, { on := 7, ground := Ground.phase }, { on := 8, ground := Ground.phase }, { on := 9, ground := Ground.phase }, { on := 10, ground := Ground.phase }, { on := 11, ground := Ground.phase }], guard := none }) (v := ?_) rfl (by kernel_rfl) (by kernel_rfl) (by kernel_rfl) (fun _ _ _ h => h) (Or.inl ⟨by rfl, ?_⟩) (by assumption) ?_
        rotate_left
        · intro w_ hSw
          (try dsimp only at hSw)
          go_simp
          first | done | with_reducible rfl
        try simp only [Act.put, List.setIfInBounds_toArray, List.set_cons_zero, List.set_cons_succ]
        refine wpAnyH_ready (rs := [14]) (by kernel_rfl) (by simp) ?_
        refine AllReadyH.cons (o := { dst := none, op := Op.store 23 (Operand.tmp 45) (Operand.tmp 43), type := 0, pos := "wire.go:45", after := #[{ on := 13, ground := Ground.data }, { on := 11, ground := Ground.data }, { on := 11, ground := Ground.chain }, { on := 0, ground := Ground.phase }, { on := 1, ground := Ground.phase }, { on := 2, ground := Ground.phase }, { on := 3, ground := Ground.phase }, { on := 4, ground := Ground.phase }, { on := 5, ground := Ground.phase }, { on := 6, ground := Ground.phase }, { on := 7, ground := Ground.phase }, { on := 8, ground := Ground.phase }, { on := 9, ground := Ground.phase }, { on := 10, ground := Ground.phase }, { on := 11, ground := Ground.phase }], guard := none }) rfl (fun K hK => ?_) AllReadyH.nil
        go_simp
        skip
        refine hK.out _ _ ?_ (fun hHeld => ?_)
        · trivial
        clear hK K
        try simp only [Act.put, List.setIfInBounds_toArray, List.set_cons_zero, List.set_cons_succ]
        refine wpAnyH_done (by kernel_rfl) ?_ _
        go_wp2
        go_roundw
        case rel => exact ⟨0, by omega, by go_num, Lib.hid (by first | exact ⟨hB, _, B3.out.set_ 0 _, by have h9 := HO3.out.set_ (HO3.out.ne_blk (t := 111) B3.out (by decide)) (p := ⟨g, 0, none⟩) (.slice A3 n3 c3); simpa [fix2] using h9⟩ | exact ⟨hB, _, (B3.out.set_ 0 _).drewN _, by have h9 := (HO3.out.set_ (HO3.out.ne_blk (t := 111) B3.out (by decide)) (p := ⟨g, 0, none⟩) (.slice A3 n3 c3)).drewN _; simpa [fix2] using h9⟩), Lib.hid (by first | exact HB3.out.setCell hB _ | exact (HB3.out.setCell hB _).drewN _)⟩
        case measure => simp [intOf]
      · skip
        go_simp
        skip
        refine hK.out _ _ ?_ (fun hHeld => ?_)
        · trivial
        clear hK K
        try simp only [Act.put, List.setIfInBounds_toArray, List.set_cons_zero, List.set_cons_succ]
        refine wpAnyH_ready (rs := [4]) (by kernel_rfl) (by simp) ?_
        refine AllReadyH.cons (o := { dst := some 36, op := Op.load 23 (Operand.tmp 35), type := 23, pos := "wire.go:45", after := #[{ on := 3, ground := Ground.data }], guard := none }) rfl (fun K hK => ?_) AllReadyH.nil
        go_simp
        skip
        refine hK.out _ _ ?_ (fun hHeld => ?_)
        · trivial
        clear hK K
        try simp only [Act.put, List.setIfInBounds_toArray, List.set_cons_zero, List.set_cons_succ]
        refine wpAnyH_ready (rs := [11]) (by kernel_rfl) (by simp) ?_
        refine AllReadyH.cons (o := { dst := some 43, op := Op.call { callee := Callee.builtin Builtin.append, args := #[Operand.tmp 36, Operand.tmp 42], argTypes := #[23, 23] }, type := 23, pos := "wire.go:45", after := #[{ on := 4, ground := Ground.data }, { on := 10, ground := Ground.data }], guard := none }) rfl (fun K hK => ?_) AllReadyH.nil
        refine step_app1 rfl (.tmp 36) (.tmp 42) rfl B vv (l ++ (fix2 v).take 1) rfl (by repeat (first | exact HO.out | refine OwnN.drewN ?_ _ | refine OwnN.drew ?_ | refine OwnN.alloc ?_ _)) ⟨wr.heap.size, 0, none⟩ 1 (UInt8.ofNat v) rfl (((GR.Blk.new _ _ _).cell 0).trans (congrArg (fun z => some (Value.int .u8 z)) HV.out)) (by simp [fix2]; omega) (by simp; omega) ?_
        intro v3 w3 ho_ hg_
        obtain ⟨A3, n3, c3, rfl⟩ := ho_.slice'
        have G3 : Hid (wr.grownBy w3 vv.ownBlock) := Lib.hid (GR.grown_step (GR.grown_of_bl (by repeat (first | exact Below.refl _ _ | refine bl_drewN ?_ _ | refine bl_drew ?_ | refine bl_alloc ?_ _)) vv.ownBlock) hg_ (.inl rfl))
        have B3 : Hid (GR.Blk w3 g 111 #[vv]) := Lib.hid (BG.out.grown G3.out (Ne.symm (HO.out.ne_blk BG.out (by decide))))
        have HO3 := Lib.hid ho_
        have HB3 := Lib.hid (hb.out.grown G3.out hBr (fun b hb => (HO.out.lt b hb).1))
        clear ho_ hg_ G3
        have d0 : w3.cell? ⟨g, 0, none⟩ = some vv := B3.out.cell 0
        have d1 := B3.out.frozen 0
        refine hK.out _ _ ?_ (fun hHeld => ?_)
        · trivial
        clear hK K
        try simp only [Act.put, List.setIfInBounds_toArray, List.set_cons_zero, List.set_cons_succ]
        refine wpAnyH_take (i := 12) (oi := { dst := some 44, op := Op.nilCheck (Operand.tmp 32), type := 0, pos := "wire.go:45", after := #[{ on := 0, ground := Ground.data }, { on := 0, ground := Ground.phase }, { on := 1, ground := Ground.phase }, { on := 2, ground := Ground.phase }, { on := 3, ground := Ground.phase }, { on := 4, ground := Ground.phase }, { on := 5, ground := Ground.phase }, { on := 6, ground := Ground.phase }, { on := 7, ground := Ground.phase }, { on := 8, ground := Ground.phase }, { on := 9, ground := Ground.phase }, { on := 10, ground := Ground.phase }, { on := 11, ground := Ground.phase }], guard := none }) (v := ?_) rfl (by kernel_rfl) (by kernel_rfl) (by kernel_rfl) (fun _ _ _ h => h) (Or.inl ⟨by rfl, ?_⟩) (by assumption) ?_
        rotate_left
        · intro w_ hSw
          (try dsimp only at hSw)
          go_simp
          first | done | with_reducible rfl
        try simp only [Act.put, List.setIfInBounds_toArray, List.set_cons_zero, List.set_cons_succ]
        refine wpAnyH_take (i := 13) (oi := { dst := some 45, op := Op.fieldAddr 111 (Operand.tmp 44) 0, type := 0, pos := "wire.go:45", after := #[{ on := 12, ground := Ground.data }, { on := 0, ground := Ground.phase }, { on := 1, ground := Ground.phase }, { on := 2, ground := Ground.phase }, { on := 3, ground := Ground.phase }, { on := 4, ground := Ground.phase }, { on := 5, ground := Ground.phase }, { on := 6, ground := Ground.phase }, { on := 7, ground := Ground.phase }, { on := 8, ground := Ground.phase }, { on := 9, ground := Ground.phase }, { on := 10, ground := Ground.phase }, { on := 11, ground := Ground.phase }], guard := none }) (v := ?_) rfl (by kernel_rfl) (by kernel_rfl) (by kernel_rfl) (fun _ _ _ h => h) (Or.inl ⟨by rfl, ?_⟩) (by assumption) ?_
        rotate_left
        · intro w_ hSw
          (try dsimp only at hSw)
          go_simp
          first | done | with_reducible rfl
        try simp only [Act.put, List.setIfInBounds_toArray, List.set_cons_zero, List.set_cons_succ]
        refine wpAnyH_ready (rs := [14]) (by kernel_rfl) (by simp) ?_
        refine AllReadyH.cons (o := { dst := none, op := Op.store 23 (Operand.tmp 45) (Operand.tmp 43), type := 0, pos := "wire.go:45", after := #[{ on := 13, ground := Ground.data }, { on := 11, ground := Ground.data }, { on := 11, ground := Ground.chain }, { on := 0, ground := Ground.phase }, { on := 1, ground := Ground.phase }, { on := 2, ground := Ground.phase }, { on := 3, ground := Ground.phase }, { on := 4, ground := Ground.phase }, { on := 5, ground := Ground.phase }, { on := 6, ground := Ground.phase }, { on := 7, ground := Ground.phase }, { on := 8, ground := Ground.phase }, { on := 9, ground := Ground.phase }, { on := 10, ground := Ground.phase }, { on := 11, ground := Ground.phase }], guard := none }) rfl (fun K hK => ?_) AllReadyH.nil
        go_simp
        skip
        refine hK.out _ _ ?_ (fun hHeld => ?_)
        · trivial
        clear hK K
        try simp only [Act.put, List.setIfInBounds_toArray, List.set_cons_zero, List.set_cons_succ]
        refine wpAnyH_done (by kernel_rfl) ?_ _
        go_wp2
        go_roundw
        case rel => exact ⟨0, by omega, by go_num, Lib.hid (by first | exact ⟨hB, _, B3.out.set_ 0 _, by have h9 := HO3.out.set_ (HO3.out.ne_blk (t := 111) B3.out (by decide)) (p := ⟨g, 0, none⟩) (.slice A3 n3 c3); simpa [fix2] using h9⟩ | exact ⟨hB, _, (B3.out.set_ 0 _).drewN _, by have h9 := (HO3.out.set_ (HO3.out.ne_blk (t := 111) B3.out (by decide)) (p := ⟨g, 0, none⟩) (.slice A3 n3 c3)).drewN _; simpa [fix2] using h9⟩), Lib.hid (by first | exact HB3.out.setCell hB _ | exact (HB3.out.setCell hB _).drewN _)⟩
        case measure => simp [intOf]
    | 2, _ =>
      have HV := Lib.hid (show IntKind.u8.wrap ((v : Int) / 256) = bv (UInt8.ofNat (v / 256)) by unfold bv; rw [UInt8.toNat_ofNat', IntKind.wrap_u8]; omega)
      go_wp2
      refine wp_region_held_drew (S := fun _ => True) (by kernel_rfl) ?_ (fun hHeld => ?_)
      · trivial
      refine wpAnyH_take (i := 0) (oi := { dst := some 32, op := Op.move (Operand.tmp 0), type := 90, pos := "wire.go:45", after := #[], guard := none }) (v := ?_) rfl (by kernel_rfl) (by kernel_rfl) (by kernel_rfl) (fun _ _ _ h => h) (Or.inl ⟨by rfl, ?_⟩) (by assumption) ?_
      rotate_left
      · intro w_ hSw
        (try dsimp only at hSw)
        go_simp
        first | done | with_reducible rfl
      try simp only [Act.put, List.setIfInBounds_toArray, List.set_cons_zero, List.set_cons_succ]
      refine wpAnyH_take (i := 1) (oi := { dst := some 33, op := Op.move (Operand.tmp 0), type := 90, pos := "wire.go:45", after := #[], guard := none }) (v := ?_) rfl (by kernel_rfl) (by kernel_rfl) (by kernel_rfl) (fun _ _ _ h => h) (Or.inl ⟨by rfl, ?_⟩) (by assumption) ?_
      rotate_left
      · intro w_ hSw
        (try dsimp only at hSw)
        go_simp
        first | done | with_reducible rfl
      try simp only [Act.put, List.setIfInBounds_toArray, List.set_cons_zero, List.set_cons_succ]
      refine wpAnyH_take (i := 2) (oi := { dst := some 34, op := Op.nilCheck (Operand.tmp 33), type := 0, pos := "wire.go:45", after := #[{ on := 1, ground := Ground.data }], guard := none }) (v := ?_) rfl (by kernel_rfl) (by kernel_rfl) (by kernel_rfl) (fun _ _ _ h => h) (Or.inl ⟨by rfl, ?_⟩) (by assumption) ?_
      rotate_left
      · intro w_ hSw
        (try dsimp only at hSw)
        go_simp
        first | done | with_reducible rfl
      try simp only [Act.put, List.setIfInBounds_toArray, List.set_cons_zero, List.set_cons_succ]
      refine wpAnyH_take (i := 3) (oi := { dst := some 35, op := Op.fieldAddr 111 (Operand.tmp 34) 0, type := 0, pos := "wire.go:45", after := #[{ on := 2, ground := Ground.data }], guard := none }) (v := ?_) rfl (by kernel_rfl) (by kernel_rfl) (by kernel_rfl) (fun _ _ _ h => h) (Or.inl ⟨by rfl, ?_⟩) (by assumption) ?_
      rotate_left
      · intro w_ hSw
        (try dsimp only at hSw)
        go_simp
        first | done | with_reducible rfl
      try simp only [Act.put, List.setIfInBounds_toArray, List.set_cons_zero, List.set_cons_succ]
      refine wpAnyH_take (i := 5) (oi := { dst := some 37, op := Op.move (Operand.tmp 1), type := 82, pos := "wire.go:45", after := #[], guard := none }) (v := ?_) rfl (by kernel_rfl) (by kernel_rfl) (by kernel_rfl) (fun _ _ _ h => h) (Or.inl ⟨by rfl, ?_⟩) (by assumption) ?_
      rotate_left
      · intro w_ hSw
        (try dsimp only at hSw)
        go_simp
        first | done | with_reducible rfl
      try simp only [Act.put, List.setIfInBounds_toArray, List.set_cons_zero, List.set_cons_succ]
      refine wpAnyH_take (i := 6) (oi := { dst := some 38, op := Op.move (Operand.tmp 2), type := 3, pos := "wire.go:45", after := #[], guard := none }) (v := ?_) rfl (by kernel_rfl) (by kernel_rfl) (by kernel_rfl) (fun _ _ _ h => h) (Or.inl ⟨by rfl, ?_⟩) (by assumption) ?_
      rotate_left
      · intro w_ hSw
        (try dsimp only at hSw)
        go_simp
        first | done | with_reducible rfl
      try simp only [Act.put, List.setIfInBounds_toArray, List.set_cons_zero, List.set_cons_succ]
      refine wpAnyH_take (i := 7) (oi := { dst := some 39, op := Op.binOp BinOp.mul 3 (Operand.const (Value.int IntKind.i64 8)) (Operand.tmp 38) 3, type := 3, pos := "wire.go:45", after := #[{ on := 6, ground := Ground.data }], guard := none }) (v := ?_) rfl (by kernel_rfl) (by kernel_rfl) (by kernel_rfl) (fun _ _ _ h => h) (Or.inl ⟨by rfl, ?_⟩) (by assumption) ?_
      rotate_left
      · intro w_ hSw
        (try dsimp only at hSw)
        go_simp
        first | done | with_reducible rfl
      try simp only [Act.put, List.setIfInBounds_toArray, List.set_cons_zero, List.set_cons_succ]
      refine wpAnyH_take (i := 8) (oi := { dst := some 40, op := Op.binOp BinOp.shr 82 (Operand.tmp 37) (Operand.tmp 39) 3, type := 82, pos := "wire.go:45", after := #[{ on := 5, ground := Ground.data }, { on := 7, ground := Ground.data }], guard := none }) (v := ?_) rfl (by kernel_rfl) (by kernel_rfl) (by kernel_rfl) (fun _ _ _ h => h) (Or.inl ⟨by rfl, ?_⟩) (by assumption) ?_
      rotate_left
      · intro w_ hSw
        (try dsimp only at hSw)
        go_simp
        first | done | with_reducible rfl
      try simp only [Act.put, List.setIfInBounds_toArray, List.set_cons_zero, List.set_cons_succ]
      refine wpAnyH_take (i := 9) (oi := { dst := some 41, op := Op.convert 82 5 (Operand.tmp 40), type := 5, pos := "wire.go:45", after := #[{ on := 8, ground := Ground.data }], guard := none }) (v := ?_) rfl (by kernel_rfl) (by kernel_rfl) (by kernel_rfl) (fun _ _ _ h => h) (Or.inl ⟨by rfl, ?_⟩) (by assumption) ?_
      rotate_left
      · intro w_ hSw
        (try dsimp only at hSw)
        go_simp
        first | done | with_reducible rfl
      try simp only [Act.put, List.setIfInBounds_toArray, List.set_cons_zero, List.set_cons_succ]
      refine wpAnyH_ready (rs := [4, 10]) (by kernel_rfl) (by simp) ?_
      refine AllReadyH.cons (o := { dst := some 36, op := Op.load 23 (Operand.tmp 35), type := 23, pos := "wire.go:45", after := #[{ on := 3, ground := Ground.data }], guard := none }) rfl (fun K hK => ?_) (AllReadyH.cons (o := { dst := some 42, op := Op.buildSlice 23 1 #[(0, Operand.tmp 41)], type := 23, pos := "wire.go:45", after := #[{ on := 9, ground := Ground.data }], guard := none }) rfl (fun K hK => ?_) (AllReadyH.nil))
      · skip
        go_simp
        skip
        refine hK.out _ _ ?_ (fun hHeld => ?_)
        · trivial
        clear hK K
        try simp only [Act.put, List.setIfInBounds_toArray, List.set_cons_zero, List.set_cons_succ]
        refine wpAnyH_ready (rs := [10]) (by kernel_rfl) (by simp) ?_
        refine AllReadyH.cons (o := { dst := some 42, op := Op.buildSlice 23 1 #[(0, Operand.tmp 41)], type := 23, pos := "wire.go:45", after := #[{ on := 9, ground := Ground.data }], guard := none }) rfl (fun K hK => ?_) AllReadyH.nil
        go_simp
        skip
        refine hK.out _ _ ?_ (fun hHeld => ?_)
        · trivial
        clear hK K
        try simp only [Act.put, List.setIfInBounds_toArray, List.set_cons_zero, List.set_cons_succ]
        refine wpAnyH_ready (rs := [11]) (by kernel_rfl) (by simp) ?_
        refine AllReadyH.cons (o := { dst := some 43, op := Op.call { callee := Callee.builtin Builtin.append, args := #[Operand.tmp 36, Operand.tmp 42], argTypes := #[23, 23] }, type := 23, pos := "wire.go:45", after := #[{ on := 4, ground := Ground.data }, { on := 10, ground := Ground.data }], guard := none }) rfl (fun K hK => ?_) AllReadyH.nil
        refine step_app1 rfl (.tmp 36) (.tmp 42) rfl B vv (l ++ (fix2 v).take 0) rfl (by repeat (first | exact HO.out | refine OwnN.drewN ?_ _ | refine OwnN.drew ?_ | refine OwnN.alloc ?_ _)) ⟨wr.heap.size, 0, none⟩ 1 (UInt8.ofNat (v / 256)) rfl (((GR.Blk.new _ _ _).cell 0).trans (congrArg (fun z => some (Value.int .u8 z)) HV.out)) (by simp [fix2]; omega) (by simp; omega) ?_
        intro v3 w3 ho_ hg_
        obtain ⟨A3, n3, c3, rfl⟩ := ho_.slice'
        have G3 : Hid (wr.grownBy w3 vv.ownBlock) := Lib.hid (GR.grown_step (GR.grown_of_bl (by repeat (first | exact Below.refl _ _ | refine bl_drewN ?_ _ | refine bl_drew ?_ | refine bl_alloc ?_ _)) vv.ownBlock) hg_ (.inl rfl))
        have B3 : Hid (GR.Blk w3 g 111 #[vv]) := Lib.hid (BG.out.grown G3.out (Ne.symm (HO.out.ne_blk BG.out (by decide))))
        have HO3 := Lib.hid ho_
        have HB3 := Lib.hid (hb.out.grown G3.out hBr (fun b hb => (HO.out.lt b hb).1))
        clear ho_ hg_ G3
        have d0 : w3.cell? ⟨g, 0, none⟩ = some vv := B3.out.cell 0
        have d1 := B3.out.frozen 0
        refine hK.out _ _ ?_ (fun hHeld => ?_)
        · trivial
        clear hK K
        try simp only [Act.put, List.setIfInBounds_toArray, List.set_cons_zero, List.set_cons_succ]
        refine wpAnyH_take (i := 12) (oi := { dst := some 44, op := Op.nilCheck (Operand.tmp 32), type := 0, pos := "wire.go:45", after := #[{ on := 0, ground := Ground.data }, { on := 0, ground := Ground.phase }, { on := 1, ground := Ground.phase }, { on := 2, ground := Ground.phase }, { on := 3, ground := Ground.phase }, { on := 4, ground := Ground.phase }, { on := 5, ground := Ground.phase }, { on := 6, ground := Ground.phase }, { on := 7, ground := Ground.phase }, { on := 8, ground := Ground.phase }, { on := 9, ground := Ground.phase }, { on := 10, ground := Ground.phase }, { on := 11, ground := Ground.phase }], guard := none }) (v := ?_) rfl (by kernel_rfl) (by kernel_rfl) (by kernel_rfl) (fun _ _ _ h => h) (Or.inl ⟨by rfl, ?_⟩) (by assumption) ?_
        rotate_left
        · intro w_ hSw
          (try dsimp only at hSw)
          go_simp
          first | done | with_reducible rfl
        try simp only [Act.put, List.setIfInBounds_toArray, List.set_cons_zero, List.set_cons_succ]
        refine wpAnyH_take (i := 13) (oi := { dst := some 45, op := Op.fieldAddr 111 (Operand.tmp 44) 0, type := 0, pos := "wire.go:45", after := #[{ on := 12, ground := Ground.data }, { on := 0, ground := Ground.phase }, { on := 1, ground := Ground.phase }, { on := 2, ground := Ground.phase }, { on := 3, ground := Ground.phase }, { on := 4, ground := Ground.phase }, { on := 5, ground := Ground.phase }, { on := 6, ground := Ground.phase }, { on := 7, ground := Ground.phase }, { on := 8, ground := Ground.phase }, { on := 9, ground := Ground.phase }, { on := 10, ground := Ground.phase }, { on := 11, ground := Ground.phase }], guard := none }) (v := ?_) rfl (by kernel_rfl) (by kernel_rfl) (by kernel_rfl) (fun _ _ _ h => h) (Or.inl ⟨by rfl, ?_⟩) (by assumption) ?_
        rotate_left
        · intro w_ hSw
          (try dsimp only at hSw)
          go_simp
          first | done | with_reducible rfl
        try simp only [Act.put, List.setIfInBounds_toArray, List.set_cons_zero, List.set_cons_succ]
        refine wpAnyH_ready (rs := [14]) (by kernel_rfl) (by simp) ?_
        refine AllReadyH.cons (o := { dst := none, op := Op.store 23 (Operand.tmp 45) (Operand.tmp 43), type := 0, pos := "wire.go:45", after := #[{ on := 13, ground := Ground.data }, { on := 11, ground := Ground.data }, { on := 11, ground := Ground.chain }, { on := 0, ground := Ground.phase }, { on := 1, ground := Ground.phase }, { on := 2, ground := Ground.phase }, { on := 3, ground := Ground.phase }, { on := 4, ground := Ground.phase }, { on := 5, ground := Ground.phase }, { on := 6, ground := Ground.phase }, { on := 7, ground := Ground.phase }, { on := 8, ground := Ground.phase }, { on := 9, ground := Ground.phase }, { on := 10, ground := Ground.phase }, { on := 11, ground := Ground.phase }], guard := none }) rfl (fun K hK => ?_) AllReadyH.nil
        go_simp
        skip
        refine hK.out _ _ ?_ (fun hHeld => ?_)
        · trivial
        clear hK K
        try simp only [Act.put, List.setIfInBounds_toArray, List.set_cons_zero, List.set_cons_succ]
        refine wpAnyH_done (by kernel_rfl) ?_ _
        go_wp2
        go_roundw
        case rel => exact ⟨1, by omega, by go_num, Lib.hid (by first | exact ⟨hB, _, B3.out.set_ 0 _, by have h9 := HO3.out.set_ (HO3.out.ne_blk (t := 111) B3.out (by decide)) (p := ⟨g, 0, none⟩) (.slice A3 n3 c3); simpa [fix2] using h9⟩ | exact ⟨hB, _, (B3.out.set_ 0 _).drewN _, by have h9 := (HO3.out.set_ (HO3.out.ne_blk (t := 111) B3.out (by decide)) (p := ⟨g, 0, none⟩) (.slice A3 n3 c3)).drewN _; simpa [fix2] using h9⟩), Lib.hid (by first | exact HB3.out.setCell hB _ | exact (HB3.out.setCell hB _).drewN _)⟩
        case measure => simp [intOf]
      · skip
        go_simp
        skip
        refine hK.out _ _ ?_ (fun hHeld => ?_)
        · trivial
        clear hK K
        try simp only [Act.put, List.setIfInBounds_toArray, List.set_cons_zero, List.set_cons_succ]
        refine wpAnyH_ready (rs := [4]) (by kernel_rfl) (by simp) ?_
        refine AllReadyH.cons (o := { dst := some 36, op := Op.load 23 (Operand.tmp 35), type := 23, pos := "wire.go:45", after := #[{ on := 3, ground := Ground.data }], guard := none }) rfl (fun K hK => ?_) AllReadyH.nil
        go_simp
        skip
        refine hK.out _ _ ?_ (fun hHeld => ?_)
        · trivial
        clear hK K
        try simp only [Act.put, List.setIfInBounds_toArray, List.set_cons_zero, List.set_cons_succ]
        refine wpAnyH_ready (rs := [11]) (by kernel_rfl) (by simp) ?_
        refine AllReadyH.cons (o := { dst := some 43, op := Op.call { callee := Callee.builtin Builtin.append, args := #[Operand.tmp 36, Operand.tmp 42], argTypes := #[23, 23] }, type := 23, pos := "wire.go:45", after := #[{ on := 4, ground := Ground.data }, { on := 10, ground := Ground.data }], guard := none }) rfl (fun K hK => ?_) AllReadyH.nil
        refine step_app1 rfl (.tmp 36) (.tmp 42) rfl B vv (l ++ (fix2 v).take 0) rfl (by repeat (first | exact HO.out | refine OwnN.drewN ?_ _ | refine OwnN.drew ?_ | refine OwnN.alloc ?_ _)) ⟨wr.heap.size, 0, none⟩ 1 (UInt8.ofNat (v / 256)) rfl (((GR.Blk.new _ _ _).cell 0).trans (congrArg (fun z => some (Value.int .u8 z)) HV.out)) (by simp [fix2]; omega) (by simp; omega) ?_
        intro v3 w3 ho_ hg_
        obtain ⟨A3, n3, c3, rfl⟩ := ho_.slice'
        have G3 : Hid (wr.grownBy w3 vv.ownBlock) := Lib.hid (GR.grown_step (GR.grown_of_bl (by repeat (first | exact Below.refl _ _ | refine bl_drewN ?_ _ | refine bl_drew ?_ | refine bl_alloc ?_ _)) vv.ownBlock) hg_ (.inl rfl))
        have B3 : Hid (GR.Blk w3 g 111 #[vv]) := Lib.hid (BG.out.grown G3.out (Ne.symm (HO.out.ne_blk BG.out (by decide))))
        have HO3 := Lib.hid ho_
        have HB3 := Lib.hid (hb.out.grown G3.out hBr (fun b hb => (HO.out.lt b hb).1))
        clear ho_ hg_ G3
        have d0 : w3.cell? ⟨g, 0, none⟩ = some vv := B3.out.cell 0
        have d1 := B3.out.frozen 0
        refine hK.out _ _ ?_ (fun hHeld => ?_)
        · trivial
        clear hK K
        try simp only [Act.put, List.setIfInBounds_toArray, List.set_cons_zero, List.set_cons_succ]
        refine wpAnyH_take (i := 12) (oi := { dst := some 44, op := Op.nilCheck (Operand.tmp 32), type := 0, pos := "wire.go:45", after := #[{ on := 0, ground := Ground.data }, { on := 0, ground := Ground.phase }, { on := 1, ground := Ground.phase }, { on := 2, ground := Ground.phase }, { on := 3, ground := Ground.phase }, { on := 4, ground := Ground.phase }, { on := 5, ground := Ground.phase }, { on := 6, ground := Ground.phase }, { on := 7, ground := Ground.phase }, { on := 8, ground := Ground.phase }, { on := 9, ground := Ground.phase }, { on := 10, ground := Ground.phase }, { on := 11, ground := Ground.phase }], guard := none }) (v := ?_) rfl (by kernel_rfl) (by kernel_rfl) (by kernel_rfl) (fun _ _ _ h => h) (Or.inl ⟨by rfl, ?_⟩) (by assumption) ?_
        rotate_left
        · intro w_ hSw
          (try dsimp only at hSw)
          go_simp
          first | done | with_reducible rfl
        try simp only [Act.put, List.setIfInBounds_toArray, List.set_cons_zero, List.set_cons_succ]
        refine wpAnyH_take (i := 13) (oi := { dst := some 45, op := Op.fieldAddr 111 (Operand.tmp 44) 0, type := 0, pos := "wire.go:45", after := #[{ on := 12, ground := Ground.data }, { on := 0, ground := Ground.phase }, { on := 1, ground := Ground.phase }, { on := 2, ground := Ground.phase }, { on := 3, ground := Ground.phase }, { on := 4, ground := Ground.phase }, { on := 5, ground := Ground.phase }, { on := 6, ground := Ground.phase }, { on := 7, ground := Ground.phase }, { on := 8, ground := Ground.phase }, { on := 9, ground := Ground.phase }, { on := 10, ground := Ground.phase }, { on := 11, ground := Ground.phase }], guard := none }) (v := ?_) rfl (by kernel_rfl) (by kernel_rfl) (by kernel_rfl) (fun _ _ _ h => h) (Or.inl ⟨by rfl, ?_⟩) (by assumption) ?_
        rotate_left
        · intro w_ hSw
          (try dsimp only at hSw)
          go_simp
          first | done | with_reducible rfl
        try simp only [Act.put, List.setIfInBounds_toArray, List.set_cons_zero, List.set_cons_succ]
        refine wpAnyH_ready (rs := [14]) (by kernel_rfl) (by simp) ?_
        refine AllReadyH.cons (o := { dst := none, op := Op.store 23 (Operand.tmp 45) (Operand.tmp 43), type := 0, pos := "wire.go:45", after := #[{ on := 13, ground := Ground.data }, { on := 11, ground := Ground.data }, { on := 11, ground := Ground.chain }, { on := 0, ground := Ground.phase }, { on := 1, ground := Ground.phase }, { on := 2, ground := Ground.phase }, { on := 3, ground := Ground.phase }, { on := 4, ground := Ground.phase }, { on := 5, ground := Ground.phase }, { on := 6, ground := Ground.phase }, { on := 7, ground := Ground.phase }, { on := 8, ground := Ground.phase }, { on := 9, ground := Ground.phase }, { on := 10, ground := Ground.phase }, { on := 11, ground := Ground.phase }], guard := none }) rfl (fun K hK => ?_) AllReadyH.nil
        go_simp
        skip
        refine hK.out _ _ ?_ (fun hHeld => ?_)
        · trivial
        clear hK K
        try simp only [Act.put, List.setIfInBounds_toArray, List.set_cons_zero, List.set_cons_succ]
        refine wpAnyH_done (by kernel_rfl) ?_ _
        go_wp2
        go_roundw
        case rel => exact ⟨1, by omega, by go_num, Lib.hid (by first | exact ⟨hB, _, B3.out.set_ 0 _, by have h9 := HO3.out.set_ (HO3.out.ne_blk (t := 111) B3.out (by decide)) (p := ⟨g, 0, none⟩) (.slice A3 n3 c3); simpa [fix2] using h9⟩ | exact ⟨hB, _, (B3.out.set_ 0 _).drewN _, by have h9 := (HO3.out.set_ (HO3.out.ne_blk (t := 111) B3.out (by decide)) (p := ⟨g, 0, none⟩) (.slice A3 n3 c3)).drewN _; simpa [fix2] using h9⟩), Lib.hid (by first | exact HB3.out.setCell hB _ | exact (HB3.out.setCell hB _).drewN _)⟩
        case measure => simp [intOf]
end Go.Proofs.Ytejodabmddcanaa

namespace Go.Proofs.Ytejodabmddcanaa
open Go.RowKit

def entU (e : Ent) : List UInt8 := textU e.key ++ textU e.sum
def bodyL (l : List Ent) : List UInt8 := l.flatMap entU
def formL (n : Nat) (l : List Ent) : List UInt8 := 83 :: fix2 n ++ uintU l.length ++ bodyL l
def Small (l : List Ent) : Prop := ∀ e ∈ l, e.key.size ≤ 32 ∧ e.sum.size ≤ 32
theorem textU_len {s : ByteArray} (h : s.size ≤ 32) : (textU s).length ≤ 42 := by
  have := uintU_len10 (show s.size < 18446744073709551616 by omega)
  have e : s.data.toList.length = s.size := rfl
  rw [textU, List.length_append, e]; omega
theorem bodyL_len : ∀ (l : List Ent), Small l → (bodyL l).length ≤ 84 * l.length
  | [], _ => by simp [bodyL]
  | e :: l, h => by
    have h1 := bodyL_len l (fun x hx => h x (List.mem_cons_of_mem _ hx))
    have h2 := h e List.mem_cons_self
    have h3 := textU_len h2.1
    have h4 := textU_len h2.2
    have : bodyL (e :: l) = entU e ++ bodyL l := rfl
    rw [this, List.length_append, entU, List.length_append, List.length_cons]; omega
theorem bodyL_succ (l : List Ent) (k : Nat) (h : k < l.length) : bodyL (l.take (k + 1)) = bodyL (l.take k) ++ textU l[k].key ++ textU l[k].sum := by
  rw [List.take_succ_eq_append_getElem h, bodyL, List.flatMap_append, List.append_assoc]
  simp [bodyL, entU]
theorem headL_len (n : Nat) (l : List Ent) (hl : l.length ≤ 1048576) : (83 :: fix2 n ++ uintU l.length).length ≤ 13 := by
  have := uintU_len10 (show l.length < 18446744073709551616 by omega)
  simp [fix2]; omega
theorem take_len {l : List Ent} {k : Nat} (hS : Small l) (hl : l.length ≤ 1048576) : (bodyL (l.take k)).length ≤ 88080384 := by
  have := bodyL_len (l.take k) (fun x hx => hS x (List.mem_of_mem_take hx))
  have h2 : (l.take k).length ≤ l.length := by simp; omega
  omega
theorem sizeL (L : List UInt8) : (⟨L.toArray⟩ : ByteArray).size = L.length := by simp [ByteArray.size]

set_option maxRecDepth 100000 in
set_option maxHeartbeats 3200000 in
theorem refForm_any (A : Option Addr) (c n : Nat) (l : List Ent) (hn : n < 4096) (hS : Small l) (hl : l.length ≤ 1048576) (w : World) (ha : Rd w A l) :
    Calls Try.prog 69 #[.int .i64 n, .slice A l.length c] w fun e w' => e = .returned (.string ⟨(formL n l).toArray⟩) ∧ Below w.heap.size w w' := by
  have HA := Lib.hid ha
  have HSm := Lib.hid hS
  have hh := headL_len n l hl
  have hcat1 : ∀ W, (Op.stringOp .add ⟨#[83]⟩ ⟨(fix2 n).toArray⟩).run Try.prog W = .ok (.string ⟨(83 :: fix2 n).toArray⟩) W := fun W => by
    rw [run_string_add_sum W _ _ (by rw [sizeL]; show 1 + 2 ≤ 9223372036854775807; omega)]
    have := strApp ⟨(fix2 n).toArray⟩ [83]
    simpa using congrArg (fun z => Result.ok (Value.string z) W) this
  have hcat2 : ∀ W, (Op.stringOp .add ⟨(83 :: fix2 n).toArray⟩ ⟨(uintU l.length).toArray⟩).run Try.prog W = .ok (.string ⟨(83 :: fix2 n ++ uintU l.length).toArray⟩) W := fun W => by
    rw [run_string_add_sum W _ _ (by rw [sizeL, sizeL]; rw [List.length_append] at hh; omega)]
    have := strApp ⟨(uintU l.length).toArray⟩ (83 :: fix2 n)
    simpa using congrArg (fun z => Result.ok (Value.string z) W) this
  clear ha hS
  go_enter Try.func69, Try.ntmps69
  go_wp2_with fail
  refine (fixed_any n 2 (by omega) (by omega) (by omega) _).mono ?_
  rintro e w1 ⟨he, hb1⟩
  rw [fix2_str] at he
  subst he
  have HB1 := Lib.hid hb1
  clear hb1
  go_wp2_with fail
  refine (refUint_any l.length (by omega) _).mono ?_
  rintro e w2 ⟨rfl, hb2⟩
  have HB2 := Lib.hid (bl_then HB1.out hb2)
  clear hb2 HB1
  go_wp2_with (refine conv_ownM rfl 9 23 _ rfl ⟨(83 :: fix2 n ++ uintU l.length).toArray⟩ rfl Try.underlying9 Try.underlying23 Try.underlying5 (by rw [sizeL]; omega) ?_; intro v3 w3 ho_ hb_; have HO3 := Lib.hid (OwnN.more (.inr ho_) HB2.out.size); have HB3 := Lib.hid (bl_then HB2.out hb_); clear ho_ hb_ HB2)
  go_loopw [5, 6] (fun b0 i0 w' => ∃ (b : Value) (k : Nat), b = b0 ∧ i0 = .int .i64 k ∧ k ≤ l.length ∧ Hid (OwnN w' w.heap.size b (83 :: fix2 n ++ uintU l.length ++ bodyL (l.take k))) ∧ Hid (Below w.heap.size w w')) (fun _ i0 _ => l.length - (intOf i0).toNat)
  case atStart => exact ⟨_, 0, rfl, rfl, Nat.zero_le _, Lib.hid (by have := HO3.out; simpa [bodyL] using this), HB3⟩
  case round =>
    obtain ⟨b, k, rfl, rfl, hk, ho, hb⟩ := hrel
    have hsz := hb.out.size
    have hbl := take_len (k := k) HSm.out hl
    have hLL : (83 :: fix2 n ++ uintU l.length ++ bodyL (l.take k)).length ≤ 88080397 := by rw [List.length_append]; omega
    by_cases hlt : k < l.length
    · have i1 : (0 : Int) ≤ (k : Int) := by omega
      have i2 : (k : Int) < (l.length : Int) := by omega
      have hks := HSm.out _ (List.getElem_mem hlt)
      have hk1 := textU_len hks.1
      have hk2 := textU_len hks.2
      obtain ⟨ad, e1, k0, k1⟩ := HA.out.at_ k hlt
      cases e1
      have c0 := (hb.out.cell (World.block_lt_of_cell? w _ k0)).trans k0
      have K1 := Lib.hid k1
      clear k0 k1
      go_wp2_with fail
      refine (refText_any l[k].key (by omega) _).mono ?_
      rintro e w4 ⟨rfl, hb4⟩
      have HB4 := Lib.hid (bl_then hb.out hb4)
      have HO4 := Lib.hid (ho.out.below hb4)
      have hs4 := HB4.out.size
      clear hb4
      go_wp2_with (at_builtin; refine appS rfl (.tmp 23) (.tmp 29) rfl w.heap.size b _ rfl HO4.out ⟨(textU l[k].key).toArray⟩ rfl (by rw [sizeL]; omega) hs4 ?_; intro v5 w5 ho_ hg_; have HO5 : Hid (OwnN w5 w.heap.size v5 (83 :: fix2 n ++ uintU l.length ++ bodyL (l.take k) ++ textU l[k].key)) := Lib.hid ho_; have HB5 := Lib.hid (bl_of_grown HB4.out hg_ (fun b hb => (HO4.out.lt b hb).1)); have c5 := (HB5.out.cell (World.block_lt_of_cell? w _ K1.out)).trans K1.out; clear ho_ hg_)
      refine (refText_any l[k].sum (by omega) _).mono ?_
      rintro e w6 ⟨rfl, hb6⟩
      have HB6 := Lib.hid (bl_then HB5.out hb6)
      have HO6 := Lib.hid (HO5.out.below hb6)
      have hs6 := HB6.out.size
      clear hb6
      go_wp2_with (at_builtin; refine appS rfl (.tmp 31) (.tmp 37) rfl w.heap.size v5 _ rfl HO6.out ⟨(textU l[k].sum).toArray⟩ rfl (by rw [sizeL, List.length_append]; omega) hs6 ?_; intro v7 w7 ho_ hg_; have HO7 := Lib.hid ho_; have HB7 := Lib.hid (bl_of_grown HB6.out hg_ (fun b hb => (HO6.out.lt b hb).1)); clear ho_ hg_)
      go_roundw
      case rel => exact ⟨_, k + 1, rfl, by go_num, hlt, Lib.hid (by have h9 := HO7.out; rw [bodyL_succ l k hlt]; simpa [List.append_assoc] using h9), HB7⟩
      case measure => simp [intOf]; omega
    · obtain rfl : k = l.length := by omega
      have i1 : decide ((l.length : Int) < (l.length : Int)) = false := by simp
      have i2 : decide (l.length < l.length) = false := by simp
      have hcv := ownN_str ho.out
      go_wp2
      go_ret
      exact ⟨ret_str (by simp [formL]), hb.out⟩

def formE (n : Int) (l : List Ent) : Int := if segB n then (if listB l then 0 else 140) else 1
def formS (n : Int) (l : List Ent) : ByteArray := if segB n && listB l then ⟨(formL n.toNat l).toArray⟩ else ⟨#[]⟩
theorem small_of_valid {l : List Ent} {wd : Int} (h : validB l wd = true) : Small l := by
  intro e he
  obtain ⟨i, hi⟩ := List.getElem?_of_mem he
  have hlt := (List.getElem?_eq_some_iff.1 hi).1
  simp only [validB, Bool.and_eq_true, List.all_eq_true, List.mem_range, decide_eq_true_eq] at h
  have h1 := h.1 i hlt
  simp only [okAt, hi, Bool.and_eq_true, beq_iff_eq, keyB, decide_eq_true_eq] at h1
  omega
theorem small_of_list {l : List Ent} (h : listB l = true) : Small l := by
  cases l with
  | nil => intro e he; cases he
  | cons x l => exact small_of_valid h
theorem ret_si {a b : ByteArray} {x y : Int} (h : b = a) (k : y = x) : Ending.returned (.tuple #[.string a, .int .i64 x]) = .returned (.tuple #[.string b, .int .i64 y]) := by rw [h, k]
theorem form_yes {m : Nat} {l : List Ent} (h1 : segB m = true) (h2 : listB l = true) : formS m l = ⟨(formL m l).toArray⟩ ∧ formE m l = 0 := by simp [formS, formE, h1, h2]
theorem form_list {n : Int} {l : List Ent} (h1 : segB n = true) (h2 : listB l = false) : formS n l = ⟨#[]⟩ ∧ formE n l = 140 := by simp [formS, formE, h1, h2]
theorem form_seg {n : Int} {l : List Ent} (h1 : segB n = false) : formS n l = ⟨#[]⟩ ∧ formE n l = 1 := by simp [formS, formE, h1]

set_option maxRecDepth 100000 in
set_option maxHeartbeats 3200000 in
theorem refFormE_any (A : Option Addr) (c : Nat) (n : Int) (l : List Ent) (hl : l.length ≤ 1048576) (w : World) (ha : Rd w A l) :
    Calls Try.prog 43 #[.int .i64 n, .slice A l.length c] w fun e w' => e = .returned (.tuple #[.string (formS n l), .int .i64 (formE n l)]) ∧ Below w.heap.size w w' := by
  have HA := Lib.hid ha
  clear ha
  by_cases h1 : segB n = true
  · by_cases h2 : listB l = true
    · obtain ⟨m, rfl, hm⟩ := segB_pos h1
      have HV := Lib.hid (form_yes h1 h2)
      have HS := Lib.hid (small_of_list h2)
      go_enter Try.func43, Try.ntmps43
      go_wp2_with fail
      refine (refSeg_any _ _).mono ?_
      rintro e w1 ⟨rfl, rfl⟩
      rw [h1]
      go_wp2_with fail
      refine (refList_any _ _ _ _ HA.out).mono ?_
      rintro e w1 ⟨rfl, hd1⟩
      rw [h2]
      have D1 := Lib.hid hd1
      clear hd1
      go_wp2_with fail
      refine (refForm_any A c m l hm HS.out hl _ (D1.out.rd HA.out)).mono ?_
      rintro e w2 ⟨rfl, hb2⟩
      have B2 := Lib.hid (((D1.out.below _).trans (hb2.mono (Nat.le_of_eq D1.out.size.symm)) : Below w.heap.size w w2))
      clear hb2 D1
      go_wp2
      go_ret2
      exact ⟨ret_si HV.out.1 HV.out.2, B2.out⟩
    · have h2' : listB l = false := by simpa using h2
      have HV := Lib.hid (form_list h1 h2')
      clear h2
      go_enter Try.func43, Try.ntmps43
      go_wp2_with fail
      refine (refSeg_any _ _).mono ?_
      rintro e w1 ⟨rfl, rfl⟩
      rw [h1]
      go_wp2_with fail
      refine (refList_any _ _ _ _ HA.out).mono ?_
      rintro e w1 ⟨rfl, hd1⟩
      rw [h2']
      have D1 := Lib.hid hd1
      clear hd1
      go_wp2
      go_ret2
      exact ⟨ret_si HV.out.1 HV.out.2, D1.out.below _⟩
  · have h1' : segB n = false := by simpa using h1
    have HV := Lib.hid (form_seg (l := l) h1')
    clear h1
    go_enter Try.func43, Try.ntmps43
    go_wp2_with fail
    refine (refSeg_any _ _).mono ?_
    rintro e w1 ⟨rfl, rfl⟩
    rw [h1']
    go_wp2
    go_ret2
    exact ⟨ret_si HV.out.1 HV.out.2, Below.refl _ _⟩

set_option maxRecDepth 100000 in
set_option maxHeartbeats 3200000 in
theorem segForm_any (A : Option Addr) (c : Nat) (n : Int) (l : List Ent) (hl : l.length ≤ 1048576) (w : World) (ha : Rd w A l) :
    Calls Try.prog 45 #[.int .i64 n, .slice A l.length c] w fun e w' => e = .returned (.tuple #[.string (formS n l), .int .i64 (formE n l)]) ∧ Below w.heap.size w w' := by
  have HA := Lib.hid ha
  clear ha
  by_cases h1 : segB n = true
  · by_cases h2 : listB l = true
    · obtain ⟨m, rfl, hm⟩ := segB_pos h1
      have HV := Lib.hid (form_yes h1 h2)
      have HSm := Lib.hid (small_of_list h2)
      have hh := headL_len m l hl
      have hu := uintU_len10 (show l.length < 18446744073709551616 by omega)
      go_enter Try.func45, Try.ntmps45
      go_wp2_with fail
      refine (segSeg_any _ _).mono ?_
      rintro e w1 ⟨rfl, rfl⟩
      rw [h1]
      go_wp2_with fail
      refine (segList_any _ _ _ _ HA.out).mono ?_
      rintro e w1 ⟨rfl, hb1⟩
      rw [h2]
      have B1 := Lib.hid hb1
      clear hb1
      go_wp2_with fail
      refine (newWriter_any _).mono ?_
      rintro e w2 ⟨rfl, hw2, hb2⟩
      have W2 := Lib.hid hw2
      have hs1 := B1.out.size
      have B2 := Lib.hid (bl_then B1.out hb2)
      clear hw2 hb2
      go_wp2_with fail
      refine (byte_any _ _ [] 83 83 _ W2.out rfl (by simp)).mono ?_
      rintro e w3 ⟨rfl, hw3, hb3⟩
      have W3 := Lib.hid hw3
      have B3 := Lib.hid (B2.out.trans (hb3.mono hs1))
      clear hw3 hb3 W2
      go_wp2_with fail
      refine (fixed2_any _ _ _ m (by omega) _ W3.out (by simp)).mono ?_
      rintro e w4 ⟨rfl, hw4, hb4⟩
      have W4 := Lib.hid hw4
      have B4 := Lib.hid (B3.out.trans (hb4.mono hs1))
      clear hw4 hb4 W3 B3
      go_wp2_with fail
      refine (uint_any _ _ _ l.length (by omega) _ W4.out (by simp [fix2])).mono ?_
      rintro e w5 ⟨rfl, hw5, hb5, _⟩
      have W5 := Lib.hid (show Wr w5 w1.heap.size w1.heap.size (83 :: fix2 m ++ uintU l.length) by simpa using hw5)
      have B5 := Lib.hid (B4.out.trans (hb5.mono hs1))
      clear hw5 hb5 W4 B4 B2 B1
      go_wp2
      go_loopw [31] (fun i0 w' => ∃ (k : Nat), i0 = .int .i64 k ∧ k ≤ l.length ∧ Hid (Wr w' w1.heap.size w1.heap.size (83 :: fix2 m ++ uintU l.length ++ bodyL (l.take k))) ∧ Hid (Below w.heap.size w w')) (fun i0 _ => l.length - (intOf i0).toNat)
      case atStart => exact ⟨0, rfl, Nat.zero_le _, Lib.hid (by have := W5.out; simpa [bodyL] using this), B5⟩
      case round =>
        obtain ⟨k, rfl, hk, hW, hb⟩ := hrel
        have hbl := take_len (k := k) HSm.out hl
        have hLL : (83 :: fix2 m ++ uintU l.length ++ bodyL (l.take k)).length ≤ 88080397 := by rw [List.length_append]; omega
        by_cases hlt : k < l.length
        · have i1 : (0 : Int) ≤ (k : Int) := by omega
          have i2 : (k : Int) < (l.length : Int) := by omega
          have hks := HSm.out _ (List.getElem_mem hlt)
          have hk1 := textU_len hks.1
          have hk2 := textU_len hks.2
          obtain ⟨ad, e1, k0, k1⟩ := HA.out.at_ k hlt
          cases e1
          have c0 := (hb.out.cell (World.block_lt_of_cell? w _ k0)).trans k0
          have c1 := (hb.out.cell (World.block_lt_of_cell? w _ k1)).trans k1
          clear k0 k1
          have hgl : w1.heap.size < wr.heap.size := by obtain ⟨_, _, h, _⟩ := hW.out; exact h.lt
          go_wp2_with fail
          refine (wtext_any _ _ _ l[k].key _ (hW.out.below ((Below.refl _ _).alloc (Nat.le_refl _) _)) (by omega)).mono ?_
          rintro e w6 ⟨rfl, hw6, hb6, hk6⟩
          have W6 := Lib.hid hw6
          have X6 := hk6 wr.heap.size 53 _ (GR.Blk.new wr 53 #[.string l[k].key, .string l[k].sum]) (by decide) (by omega)
          have x1 : w6.cell? ⟨wr.heap.size, 1, none⟩ = some (.string l[k].sum) := X6.cell 1
          have B6 := Lib.hid ((bl_alloc hb.out (.cells #[.string l[k].key, .string l[k].sum] 53)).trans (hb6.mono hs1))
          clear hw6 hb6 hk6 X6
          go_wp2_with fail
          refine (wtext_any _ _ _ l[k].sum _ W6.out (by rw [List.length_append]; omega)).mono ?_
          rintro e w7 ⟨rfl, hw7, hb7, _⟩
          have W7 := Lib.hid hw7
          have B7 := Lib.hid (B6.out.trans (hb7.mono hs1))
          clear hw7 hb7
          go_wp2
          go_roundw
          case rel => exact ⟨k + 1, by go_num, hlt, Lib.hid (by have h9 := W7.out; rw [bodyL_succ l k hlt]; simpa [List.append_assoc] using h9), B7⟩
          case measure => simp [intOf]; omega
        · obtain rfl : k = l.length := by omega
          have i1 : decide ((l.length : Int) < (l.length : Int)) = false := by simp
          have i2 : decide (l.length < l.length) = false := by simp
          have HW := Lib.hid (show Wr wr w1.heap.size w1.heap.size (formL m l) by have h9 := hW.out; rw [List.take_length] at h9; exact h9)
          go_wp2_with fail
          refine (told_any _ _ _ _ HW.out).mono ?_
          rintro e w8 ⟨rfl, rfl⟩
          go_wp2
          go_ret2
          exact ⟨ret_si HV.out.1 HV.out.2, hb.out⟩
    · have h2' : listB l = false := by simpa using h2
      have HV := Lib.hid (form_list h1 h2')
      clear h2
      go_enter Try.func45, Try.ntmps45
      go_wp2_with fail
      refine (segSeg_any _ _).mono ?_
      rintro e w1 ⟨rfl, rfl⟩
      rw [h1]
      go_wp2_with fail
      refine (segList_any _ _ _ _ HA.out).mono ?_
      rintro e w1 ⟨rfl, hb1⟩
      rw [h2']
      have B1 := Lib.hid hb1
      clear hb1
      go_wp2
      go_ret2
      exact ⟨ret_si HV.out.1 HV.out.2, B1.out⟩
  · have h1' : segB n = false := by simpa using h1
    have HV := Lib.hid (form_seg (l := l) h1')
    clear h1
    go_enter Try.func45, Try.ntmps45
    go_wp2_with fail
    refine (segSeg_any _ _).mono ?_
    rintro e w1 ⟨rfl, rfl⟩
    rw [h1']
    go_wp2
    go_ret2
    exact ⟨ret_si HV.out.1 HV.out.2, Below.refl _ _⟩
end Go.Proofs.Ytejodabmddcanaa

namespace Go.Proofs.Ytejodabmddcanaa
open Go.RowKit
attribute [local irreducible] arrW arrB wpList Code.wp

def wdB (wd : Int) : Bool := decide (1 ≤ wd) && decide (wd ≤ 32)
theorem wdB_pos {wd : Int} (h : wdB wd = true) : ∃ k : Nat, wd = k ∧ 1 ≤ k ∧ k ≤ 32 := by
  simp only [wdB, Bool.and_eq_true, decide_eq_true_eq] at h
  exact ⟨wd.toNat, by omega, by omega, by omega⟩
def cutL (L : List UInt8) (k : Nat) : List UInt8 := (List.range k).map (shaB L)
def cutS (s : ByteArray) (wd : Int) : ByteArray := if wdB wd then ⟨(cutL s.data.toList wd.toNat).toArray⟩ else ⟨#[]⟩
def cutE (wd : Int) : Int := if wdB wd then 0 else 1
theorem cut_yes {s : ByteArray} {k : Nat} (h : wdB k = true) : cutS s k = ⟨(cutL s.data.toList k).toArray⟩ ∧ cutE k = 0 := by simp [cutS, cutE, h]
theorem cut_no {s : ByteArray} {wd : Int} (h : wdB wd = false) : cutS s wd = ⟨#[]⟩ ∧ cutE wd = 1 := by simp [cutS, cutE, h]
theorem arr_str {w : World} {g : Nat} {t : TypeId} (f : Nat → UInt8) (h : Blk w g t (arrB 32 f)) (k cap : Nat) (hk : k ≤ 32) :
    (convert 23 9 (.slice (some ⟨g, 0, none⟩) k cap)).run Try.prog w = .ok (.string ⟨((List.range k).map f).toArray⟩) w := by
  have := run_convert_bytes_back (P := Try.prog) w 23 9 5 ⟨g, 0, none⟩ cap ((List.range k).map f) Try.underlying23 Try.underlying5 Try.underlying9 (fun j hj => by
    have hj' : j < k := by simpa using hj
    rw [add_plain, h.cell j, arrB_get 32 f (by omega)]
    simp [bv])
  rw [List.length_map, List.length_range] at this
  exact this

set_option maxRecDepth 100000 in
set_option maxHeartbeats 3200000 in
theorem cut_any (s : ByteArray) (wd : Int) (hs : s.size ≤ 70368744177664) (w : World) :
    Calls Try.prog 52 #[.string s, .int .i64 wd] w fun e w' => e = .returned (.tuple #[.string (cutS s wd), .int .i64 (cutE wd)]) ∧ Below w.heap.size w w' := by
  by_cases h : wdB wd = true
  · obtain ⟨k, rfl, h1, h2⟩ := wdB_pos h
    have HV := Lib.hid (cut_yes (s := s) h)
    have i1 : (1 : Int) ≤ (k : Int) := by omega
    have i2 : (k : Int) ≤ 32 := by omega
    have i3 : (0 : Int) ≤ (k : Int) := by omega
    have i4 : decide ((k : Int) < 1) = false := by simp; omega
    have i5 : decide ((32 : Int) < (k : Int)) = false := by simp; omega
    have i6 : decide (k < 1) = false := by simp; omega
    have i7 : decide (32 < k) = false := by simp; omega
    have HCS := Lib.hid hs
    clear h hs
    go_enter Try.func52, Try.ntmps52
    go_wp2_with (first
      | (go_at_call 82; refine (of_any _ HCS.out w).mono ?_; rintro e W1 ⟨rfl, L_⟩; have L1 := Lib.hid L_; clear L_)
      | (refine alloc_arr (w := W1) rfl 87 rfl _ _ z32 ?_; intro W2 B_ L_ S_; have B2 := Lib.hid B_; have L2 := Lib.hid L_; have S2 := Lib.hid S_; clear B_ L_ S_)
      | (refine store_arr (w := W2) rfl 87 _ _ rfl W1.heap.size (arrB 32 (shaB s.data.toList)) rfl rfl _ _ B2.out (by rw [arrB_size]; exact s32) (by rw [arrB_size, arrB_size]) (arrB_one _ _) ?_; intro W3 B_ G_ S_; have B3 := Lib.hid B_; have G3 := Lib.hid G_; clear B_ G_ S_; have hcv := arr_str _ B3.out k 32 h2))
    go_ret2
    exact ⟨ret_si HV.out.1 HV.out.2, bl_of_grown (bl_then L1.out L2.out) G3.out (zero_lt_of (by have := L1.out.size; omega) rfl)⟩
  · have h' : wdB wd = false := by simpa using h
    have HV := Lib.hid (cut_no (s := s) h')
    have h'' : ¬ (1 ≤ wd ∧ wd ≤ 32) := by simpa [wdB] using h'
    by_cases h1 : wd < 1
    · have d1 : decide (wd < 1) = true := by simp; omega
      clear h h' h'' h1
      go_enter Try.func52, Try.ntmps52
      go_wp2
      go_ret2
      exact ⟨ret_si HV.out.1 HV.out.2, Below.refl _ _⟩
    · have d1 : decide (wd < 1) = false := by simp; omega
      have d2 : decide (32 < wd) = true := by simp; omega
      clear h h' h'' h1
      go_enter Try.func52, Try.ntmps52
      go_wp2
      go_ret2
      exact ⟨ret_si HV.out.1 HV.out.2, Below.refl _ _⟩

def sumP (n : Int) (l : List Ent) (wd : Int) : ByteArray × Int :=
  if segB n && wdB wd then (if validB l wd then (if l.length = 0 then (⟨#[]⟩, 0) else (⟨(cutL (formL n.toNat l) wd.toNat).toArray⟩, 0)) else (⟨#[]⟩, 140)) else (⟨#[]⟩, 1)
theorem sum_seg {n : Int} {l : List Ent} {wd : Int} (h : segB n = false) : sumP n l wd = (⟨#[]⟩, 1) := by simp [sumP, h]
theorem sum_wd {n : Int} {l : List Ent} {wd : Int} (h : wdB wd = false) : sumP n l wd = (⟨#[]⟩, 1) := by simp [sumP, h]
theorem sum_val {n : Int} {l : List Ent} {wd : Int} (h : segB n = true) (h1 : wdB wd = true) (h2 : validB l wd = false) : sumP n l wd = (⟨#[]⟩, 140) := by simp [sumP, h, h1, h2]
theorem sum_nil {n : Int} {l : List Ent} {wd : Int} (h : segB n = true) (h1 : wdB wd = true) (h2 : validB l wd = true) (h3 : l.length = 0) : sumP n l wd = (⟨#[]⟩, 0) := by simp [sumP, h, h1, h2, h3]
theorem sum_yes {m k : Nat} {l : List Ent} (h : segB m = true) (h1 : wdB k = true) (h2 : validB l k = true) (h3 : ¬ l.length = 0) : sumP m l k = (⟨(cutL (formL m l) k).toArray⟩, 0) := by simp [sumP, h, h1, h2, h3]
theorem list_of_valid {l : List Ent} {wd : Int} (h : validB l wd = true) : listB l = true := by
  cases l with
  | nil => rfl
  | cons x l =>
    have h0 : (x.sum.size : Int) = wd := by
      simp only [validB, Bool.and_eq_true, List.all_eq_true, List.mem_range, decide_eq_true_eq] at h
      have h1 := h.1 0 (by simp)
      simp only [okAt, List.getElem?_cons_zero, Bool.and_eq_true, beq_iff_eq] at h1
      exact h1.2.1
    show validB (x :: l) x.sum.size = true
    rw [h0]; exact h
theorem ret_p {p : ByteArray × Int} {a : ByteArray} {x : Int} (h : p = (a, x)) : Ending.returned (.tuple #[.string a, .int .i64 x]) = .returned (.tuple #[.string p.1, .int .i64 p.2]) := by rw [h]
theorem formL_len {n : Nat} {l : List Ent} (hS : Small l) (hl : l.length ≤ 1048576) : (formL n l).length ≤ 88080397 := by
  have h1 := headL_len n l hl
  have h2 := take_len (k := l.length) hS hl
  rw [List.take_length] at h2
  rw [formL, List.length_append]; omega

set_option maxRecDepth 100000 in
set_option maxHeartbeats 6400000 in
theorem refSum_any (A : Option Addr) (c : Nat) (n : Int) (l : List Ent) (wd : Int) (hl : l.length ≤ 1048576) (w : World) (ha : Rd w A l) :
    Calls Try.prog 44 #[.int .i64 n, .slice A l.length c, .int .i64 wd] w fun e w' => e = .returned (.tuple #[.string (sumP n l wd).1, .int .i64 (sumP n l wd).2]) ∧ Below w.heap.size w w' := by
  have HA := Lib.hid ha
  clear ha
  by_cases h1 : segB n = true
  · by_cases h2 : wdB wd = true
    · have h2r : (decide (1 ≤ wd) && decide (wd ≤ 32)) = true := h2
      by_cases h3 : validB l wd = true
      · by_cases h4 : l.length = 0
        · have HV := Lib.hid (sum_nil h1 h2 h3 h4)
          obtain rfl : l = [] := List.eq_nil_of_length_eq_zero h4
          clear h4 h2
          go_enter Try.func44, Try.ntmps44
          go_wp2_with fail
          refine (refSeg_any _ _).mono ?_
          rintro e w1 ⟨rfl, rfl⟩
          rw [h1]
          go_wp2_with fail
          refine (refWidth_any _ _).mono ?_
          rintro e w1 ⟨rfl, rfl⟩
          rw [h2r]
          go_wp2_with fail
          refine (refValid_any A c [] wd _ HA.out).mono ?_
          rintro e w1 ⟨rfl, hd1⟩
          rw [h3]
          have D1 := Lib.hid hd1
          clear hd1
          go_wp2
          go_ret2
          exact ⟨ret_p HV.out, D1.out.below _⟩
        · obtain ⟨m, rfl, hm⟩ := segB_pos h1
          obtain ⟨k, rfl, k1, k2⟩ := wdB_pos h2
          have HV := Lib.hid (sum_yes h1 h2 h3 h4)
          have HS := Lib.hid (small_of_valid h3)
          have hfl := formL_len (n := m) HS.out hl
          have HCS := Lib.hid (show (⟨(formL m l).toArray⟩ : ByteArray).size ≤ 70368744177664 by rw [sizeL]; omega)
          have b1 : ((l.length : Int) == 0) = false := by rw [beq_eq_false_iff_ne]; omega
          have b2 : (l.length == 0) = false := by rw [beq_eq_false_iff_ne]; omega
          have b4 : l.isEmpty = false := by cases l with
            | nil => exact absurd rfl h4
            | cons => rfl
          have i2 : (k : Int) ≤ 32 := by omega
          have i3 : (0 : Int) ≤ (k : Int) := by omega
          clear h4 h2
          go_enter Try.func44, Try.ntmps44
          go_wp2_with fail
          refine (refSeg_any _ _).mono ?_
          rintro e w1 ⟨rfl, rfl⟩
          rw [h1]
          go_wp2_with fail
          refine (refWidth_any _ _).mono ?_
          rintro e w1 ⟨rfl, rfl⟩
          rw [h2r]
          go_wp2_with fail
          refine (refValid_any _ _ _ _ _ HA.out).mono ?_
          rintro e w1 ⟨rfl, hd1⟩
          rw [h3]
          have D1 := Lib.hid hd1
          clear hd1
          go_wp2_with fail
          refine (refForm_any A c m l hm HS.out hl _ (D1.out.rd HA.out)).mono ?_
          rintro e w2 ⟨rfl, hb2⟩
          have B2 := Lib.hid (((D1.out.below _).trans (hb2.mono (Nat.le_of_eq D1.out.size.symm)) : Below w.heap.size w w2))
          clear hb2 D1 h2r h3 h1
          go_wp2_with (first
            | (go_at_call 68; refine (refOf_any _ HCS.out w2).mono ?_; rintro e W1 ⟨rfl, L_⟩; have L1 := Lib.hid (bl_then B2.out L_); clear L_)
            | (refine alloc_arr (w := W1) rfl 87 rfl _ _ z32 ?_; intro W2 B_ L_ S_; have B3 := Lib.hid B_; have L2 := Lib.hid L_; have S2 := Lib.hid S_; clear B_ L_ S_)
            | (refine store_arr (w := W2) rfl 87 _ _ rfl W1.heap.size (arrB 32 (shaB (formL m l))) rfl rfl _ _ B3.out (by rw [arrB_size]; exact s32) (by rw [arrB_size, arrB_size]) (arrB_one _ _) ?_; intro W3 B_ G_ S_; have B4 := Lib.hid B_; have G3 := Lib.hid G_; clear B_ G_ S_; have hcv := arr_str _ B4.out k 32 k2))
          go_ret2
          exact ⟨ret_p HV.out, bl_of_grown (bl_then L1.out L2.out) G3.out (zero_lt_of (by have := L1.out.size; omega) rfl)⟩
      · have h3' : validB l wd = false := by simpa using h3
        have HV := Lib.hid (sum_val h1 h2 h3')
        clear h3 h2
        go_enter Try.func44, Try.ntmps44
        go_wp2_with fail
        refine (refSeg_any _ _).mono ?_
        rintro e w1 ⟨rfl, rfl⟩
        rw [h1]
        go_wp2_with fail
        refine (refWidth_any _ _).mono ?_
        rintro e w1 ⟨rfl, rfl⟩
        rw [h2r]
        go_wp2_with fail
        refine (refValid_any _ _ _ _ _ HA.out).mono ?_
        rintro e w1 ⟨rfl, hd1⟩
        rw [h3']
        have D1 := Lib.hid hd1
        clear hd1
        go_wp2
        go_ret2
        exact ⟨ret_p HV.out, D1.out.below _⟩
    · have h2' : wdB wd = false := by simpa using h2
      have h2r : (decide (1 ≤ wd) && decide (wd ≤ 32)) = false := h2'
      have HV := Lib.hid (sum_wd (n := n) (l := l) h2')
      clear h2 h2'
      go_enter Try.func44, Try.ntmps44
      go_wp2_with fail
      refine (refSeg_any _ _).mono ?_
      rintro e w1 ⟨rfl, rfl⟩
      rw [h1]
      go_wp2_with fail
      refine (refWidth_any _ _).mono ?_
      rintro e w1 ⟨rfl, rfl⟩
      rw [h2r]
      go_wp2
      go_ret2
      exact ⟨ret_p HV.out, Below.refl _ _⟩
  · have h1' : segB n = false := by simpa using h1
    have HV := Lib.hid (sum_seg (l := l) (wd := wd) h1')
    clear h1
    go_enter Try.func44, Try.ntmps44
    go_wp2_with fail
    refine (refSeg_any _ _).mono ?_
    rintro e w1 ⟨rfl, rfl⟩
    rw [h1']
    go_wp2
    go_ret2
    exact ⟨ret_p HV.out, Below.refl _ _⟩

set_option maxRecDepth 100000 in
set_option maxHeartbeats 6400000 in
theorem segSum_any (A : Option Addr) (c : Nat) (n : Int) (l : List Ent) (wd : Int) (hl : l.length ≤ 1048576) (w : World) (ha : Rd w A l) :
    Calls Try.prog 46 #[.int .i64 n, .slice A l.length c, .int .i64 wd] w fun e w' => e = .returned (.tuple #[.string (sumP n l wd).1, .int .i64 (sumP n l wd).2]) ∧ Below w.heap.size w w' := by
  have HA := Lib.hid ha
  clear ha
  by_cases h1 : segB n = true
  · by_cases h2 : wdB wd = true
    · have h2r : (decide (1 ≤ wd) && decide (wd ≤ 32)) = true := h2
      by_cases h3 : validB l wd = true
      · by_cases h4 : l.length = 0
        · have HV := Lib.hid (sum_nil h1 h2 h3 h4)
          obtain rfl : l = [] := List.eq_nil_of_length_eq_zero h4
          clear h4 h2
          go_enter Try.func46, Try.ntmps46
          go_wp2_with fail
          refine (segSeg_any _ _).mono ?_
          rintro e w1 ⟨rfl, rfl⟩
          rw [h1]
          go_wp2_with fail
          refine (segWide_any _ _).mono ?_
          rintro e w1 ⟨rfl, rfl⟩
          rw [h2r]
          go_wp2_with fail
          refine (segValid_any A c [] wd _ HA.out).mono ?_
          rintro e w1 ⟨rfl, hb1⟩
          rw [h3]
          have B1 := Lib.hid hb1
          clear hb1
          go_wp2
          go_ret2
          exact ⟨ret_p HV.out, B1.out⟩
        · obtain ⟨m, rfl, hm⟩ := segB_pos h1
          obtain ⟨k, rfl, k1, k2⟩ := wdB_pos h2
          have hfy := form_yes h1 (list_of_valid h3)
          have HV := Lib.hid (show sumP m l k = (cutS (formS m l) k, cutE k) by
            rw [sum_yes h1 h2 h3 h4, (cut_yes h2).1, (cut_yes (s := formS m l) h2).2, hfy.1])
          have HE := Lib.hid hfy.2
          have hfl := formL_len (n := m) (small_of_valid h3) hl
          have HCS := Lib.hid (show (formS m l).size ≤ 70368744177664 by rw [hfy.1, sizeL]; omega)
          have b1 : ((l.length : Int) == 0) = false := by rw [beq_eq_false_iff_ne]; omega
          have b2 : (l.length == 0) = false := by rw [beq_eq_false_iff_ne]; omega
          have b4 : l.isEmpty = false := by cases l with
            | nil => exact absurd rfl h4
            | cons => rfl
          clear h4 h2 hfy
          go_enter Try.func46, Try.ntmps46
          go_wp2_with fail
          refine (segSeg_any _ _).mono ?_
          rintro e w1 ⟨rfl, rfl⟩
          rw [h1]
          go_wp2_with fail
          refine (segWide_any _ _).mono ?_
          rintro e w1 ⟨rfl, rfl⟩
          rw [h2r]
          go_wp2_with fail
          refine (segValid_any _ _ _ _ _ HA.out).mono ?_
          rintro e w1 ⟨rfl, hb1⟩
          rw [h3]
          have B1 := Lib.hid hb1
          clear hb1
          go_wp2_with fail
          refine (segForm_any A c m l hl _ (HA.out.below B1.out)).mono ?_
          rintro e w2 ⟨rfl, hb2⟩
          rw [HE.out]
          have B2 := Lib.hid (bl_then B1.out hb2)
          clear hb2 B1
          go_wp2_with fail
          refine (cut_any _ _ HCS.out _).mono ?_
          rintro e w3 ⟨rfl, hb3⟩
          have B3 := Lib.hid (bl_then B2.out hb3)
          clear hb3
          go_wp2
          go_ret2
          exact ⟨ret_p HV.out, B3.out⟩
      · have h3' : validB l wd = false := by simpa using h3
        have HV := Lib.hid (sum_val h1 h2 h3')
        clear h3 h2
        go_enter Try.func46, Try.ntmps46
        go_wp2_with fail
        refine (segSeg_any _ _).mono ?_
        rintro e w1 ⟨rfl, rfl⟩
        rw [h1]
        go_wp2_with fail
        refine (segWide_any _ _).mono ?_
        rintro e w1 ⟨rfl, rfl⟩
        rw [h2r]
        go_wp2_with fail
        refine (segValid_any _ _ _ _ _ HA.out).mono ?_
        rintro e w1 ⟨rfl, hb1⟩
        rw [h3']
        have B1 := Lib.hid hb1
        clear hb1
        go_wp2
        go_ret2
        exact ⟨ret_p HV.out, B1.out⟩
    · have h2' : wdB wd = false := by simpa using h2
      have h2r : (decide (1 ≤ wd) && decide (wd ≤ 32)) = false := h2'
      have HV := Lib.hid (sum_wd (n := n) (l := l) h2')
      clear h2 h2'
      go_enter Try.func46, Try.ntmps46
      go_wp2_with fail
      refine (segSeg_any _ _).mono ?_
      rintro e w1 ⟨rfl, rfl⟩
      rw [h1]
      go_wp2_with fail
      refine (segWide_any _ _).mono ?_
      rintro e w1 ⟨rfl, rfl⟩
      rw [h2r]
      go_wp2
      go_ret2
      exact ⟨ret_p HV.out, Below.refl _ _⟩
  · have h1' : segB n = false := by simpa using h1
    have HV := Lib.hid (sum_seg (l := l) (wd := wd) h1')
    clear h1
    go_enter Try.func46, Try.ntmps46
    go_wp2_with fail
    refine (segSeg_any _ _).mono ?_
    rintro e w1 ⟨rfl, rfl⟩
    rw [h1']
    go_wp2
    go_ret2
    exact ⟨ret_p HV.out, Below.refl _ _⟩
end Go.Proofs.Ytejodabmddcanaa

namespace Go.Proofs.Ytejodabmddcanaa
open Go.RowKit

theorem u8_ofNat_inj {a b : Nat} (ha : a < 256) (hb : b < 256) (h : UInt8.ofNat a = UInt8.ofNat b) : a = b := by
  have := congrArg UInt8.toNat h
  simp only [UInt8.toNat_ofNat'] at this
  omega
theorem uintU_inj : ∀ (x y : Nat) (r s : List UInt8), uintU x ++ r = uintU y ++ s → x = y ∧ r = s := by
  intro x
  induction x using Nat.strongRecOn with
  | _ x ih =>
    intro y r s h
    by_cases hx : x < 128
    · by_cases hy : y < 128
      · rw [uintU_small hx, uintU_small hy] at h
        simp only [List.cons_append, List.nil_append, List.cons.injEq] at h
        exact ⟨u8_ofNat_inj (by omega) (by omega) h.1, h.2⟩
      · rw [uintU_small hx, uintU_big hy] at h
        simp only [List.cons_append, List.nil_append, List.cons.injEq] at h
        have := u8_ofNat_inj (by omega) (by omega) h.1
        omega
    · by_cases hy : y < 128
      · rw [uintU_big hx, uintU_small hy] at h
        simp only [List.cons_append, List.nil_append, List.cons.injEq] at h
        have := u8_ofNat_inj (by omega) (by omega) h.1
        omega
      · rw [uintU_big hx, uintU_big hy] at h
        simp only [List.cons_append, List.cons.injEq] at h
        have h1 := u8_ofNat_inj (by omega) (by omega) h.1
        have h2 := ih (x / 128) (by omega) (y / 128) r s h.2
        exact ⟨by omega, h2.2⟩
theorem bytes_eq {s t : ByteArray} (h : s.data.toList = t.data.toList) : s = t := by
  cases s with
  | mk a => cases t with
    | mk b => congr 1; exact Array.toList_inj.1 h
theorem textU_inj {s t : ByteArray} {r q : List UInt8} (h : textU s ++ r = textU t ++ q) : s = t ∧ r = q := by
  rw [textU, textU, List.append_assoc, List.append_assoc] at h
  obtain ⟨h1, h2⟩ := uintU_inj _ _ _ _ h
  have hl : s.data.toList.length = t.data.toList.length := h1
  obtain ⟨h3, h4⟩ := List.append_inj h2 hl
  exact ⟨bytes_eq h3, h4⟩
theorem bodyL_inj : ∀ (a b : List Ent), a.length = b.length → bodyL a = bodyL b → a = b
  | [], [], _, _ => rfl
  | [], _ :: _, h, _ => by simp at h
  | _ :: _, [], h, _ => by simp at h
  | x :: a, y :: b, hl, h => by
    have e1 : ∀ (z : Ent) (l : List Ent), bodyL (z :: l) = textU z.key ++ (textU z.sum ++ bodyL l) := fun z l => by simp [bodyL, entU]
    rw [e1, e1] at h
    obtain ⟨h1, h2⟩ := textU_inj h
    obtain ⟨h3, h4⟩ := textU_inj h2
    have h5 := bodyL_inj a b (by simpa using hl) h4
    cases x; cases y
    simp only at h1 h3
    rw [h1, h3, h5]
theorem formL_inj {n m : Nat} {a b : List Ent} (hn : n < 4096) (hm : m < 4096) (h : formL n a = formL m b) : n = m ∧ a = b := by
  simp only [formL, fix2, List.cons_append, List.nil_append, List.cons.injEq, true_and] at h
  obtain ⟨h1, h2, h3⟩ := h
  have e1 := u8_ofNat_inj (by omega) (by omega) h1
  have e2 := congrArg UInt8.toNat h2
  simp only [UInt8.toNat_ofNat'] at e2
  obtain ⟨h4, h5⟩ := uintU_inj _ _ _ _ h3
  exact ⟨by omega, bodyL_inj a b h4 h5⟩
theorem form_differ {n m : Nat} {a b : List Ent} (hn : n < 4096) (hm : m < 4096) : decide ((⟨(formL n a).toArray⟩ : ByteArray) = ⟨(formL m b).toArray⟩) = (decide (n = m) && decide (a = b)) := by
  by_cases h : n = m ∧ a = b
  · obtain ⟨rfl, rfl⟩ := h
    simp
  · have h1 : ¬ ((⟨(formL n a).toArray⟩ : ByteArray) = ⟨(formL m b).toArray⟩) := by
      intro e
      injection e with e
      injection e with e
      exact h (formL_inj hn hm e)
    have h2 : (decide (n = m) && decide (a = b)) = false := by
      rw [Bool.eq_false_iff]
      intro e
      simp only [Bool.and_eq_true, decide_eq_true_eq] at e
      exact h e
    rw [h2]
    simpa using h1
end Go.Proofs.Ytejodabmddcanaa

namespace Go.Proofs.Ytejodabmddcanaa
open Go.RowKit

theorem wd_of_valid {l : List Ent} {wd : Int} (h : validB l wd = true) : wdB wd = true := by
  simp only [validB, Bool.and_eq_true] at h
  simp only [wdB, Bool.and_eq_true]
  exact h.2
theorem form_yes' {n : Int} {l : List Ent} (h1 : segB n = true) (h2 : listB l = true) : formS n l = ⟨(formL n.toNat l).toArray⟩ ∧ formE n l = 0 := by simp [formS, formE, h1, h2]
theorem sum_none {n : Int} {l : List Ent} {wd : Int} (h : segB n = true) (hv : validB l wd = false) : ∃ E, sumP n l wd = (⟨#[]⟩, E) ∧ (E != 0) = true := by
  by_cases h1 : wdB wd = true
  · exact ⟨140, sum_val h h1 hv, by decide⟩
  · exact ⟨1, sum_wd (by simpa using h1), by decide⟩
/-- What the statement asks of a key's segment. -/
theorem ofI_range (key : ByteArray) : (-1 ≤ ofI key ∧ ofI key ≤ 4095) ∧ (ofI key = -1 ↔ keyB key = false) := by
  by_cases h : keyB key = true
  · rw [ofI_pos h]
    have h1 := bv_lt (shaB (placeL key) 0)
    have h2 := bv_lt (shaB (placeL key) 1)
    unfold placeI
    refine ⟨by omega, fun e => absurd e (by omega), fun e => by rw [h] at e; cases e⟩
  · have h' : keyB key = false := by simpa using h
    rw [ofI_neg h']
    exact ⟨by omega, fun _ => h', fun _ => rfl⟩

set_option maxRecDepth 100000 in
set_option maxHeartbeats 25600000 in
theorem sums_walk (A B : Option Addr) (c d : Nat) (n n2 wd : Int) (a b : List Ent) (w : World) (ha : Rd w A a) (hb : Rd w B b) (la : a.length ≤ 1048576) (lb : b.length ≤ 1048576) :
    Calls Try.prog 12 #[.int .i64 n, .int .i64 n2, .slice A a.length c, .slice B b.length d, .int .i64 wd] w fun e w' => e = .returned (.bool true) ∧ Below w.heap.size w w' := by
  obtain ⟨i0, hi0, hz0, hz1, hz2⟩ := info_parts entry_info
  have HA := Lib.hid ha
  have HB := Lib.hid hb
  clear ha hb
  go_enter Try.func12, Try.ntmps12
  go_wp2_with fail
  refine (awake_any _).mono ?_
  rintro e w1 ⟨rfl, hb1⟩
  have B1 := Lib.hid hb1
  clear hb1
  go_wp2
  go_loopw [11] (fun i w' => ∃ k : Nat, k ≤ a.length ∧ i = .int .i64 k ∧ Hid (Below w.heap.size w w')) (fun i _ => a.length - (intOf i).toNat)
  case atStart => exact ⟨0, Nat.zero_le _, rfl, B1⟩
  case round =>
    obtain ⟨k, hk, rfl, BL⟩ := hrel
    by_cases hlt : k < a.length
    · have i1 : (0 : Int) ≤ (k : Int) := by omega
      have i2 : (k : Int) < (a.length : Int) := by omega
      obtain ⟨ad, e1, k0, _⟩ := HA.out.at_ k hlt
      cases e1
      have c0 := (BL.out.cell (World.block_lt_of_cell? w _ k0)).trans k0
      have K0 := Lib.hid k0
      clear k0
      have hr := ofI_range a[k].key
      obtain ⟨V, hV⟩ : ∃ V, V = ofI a[k].key := ⟨_, rfl⟩
      have hc := fun W => segOf_any a[k].key W
      rw [← hV] at hc hr
      have d1 : decide (V < -1) = false := by simp; omega
      have d2 : decide (4095 < V) = false := by simp; omega
      have hkb : (V == -1) = !keyB a[k].key := by
        by_cases h : keyB a[k].key = true
        · rw [h, Bool.not_true, beq_eq_false_iff_ne]; intro e; have := hr.2.1 e; rw [h] at this; cases this
        · have h' : keyB a[k].key = false := by simpa using h
          rw [h', Bool.not_false, beq_iff_eq]; exact hr.2.2 h'
      by_cases hz : a[k].key.size = 0
      · have hke : keyB a[k].key = false := by rw [keyB, hz]; decide
        have q1 : (V == -1) = true := by rw [hkb, hke]; rfl
        have q2 : a[k].key.toList.isEmpty = true := by rw [toList_eq]; exact empty_of_size hz
        have HC := Lib.hid hc
        clear hkb hke hr hV hz hc
        go_wp2_with fail
        refine (HC.out _).mono ?_
        rintro e w1 ⟨rfl, hb1⟩
        have N_ := Lib.hid (bl_then BL.out hb1)
        clear BL hb1
        have BL := N_
        clear N_
        have c1 := (BL.out.cell (World.block_lt_of_cell? w _ K0.out)).trans K0.out
        go_wp2
        go_roundw
        case rel => exact ⟨k + 1, by omega, by go_num, BL⟩
        case measure => simp [intOf]; omega
      · have q2 : a[k].key.toList.isEmpty = false := by rw [toList_eq]; exact nonempty_of_size (by omega)
        by_cases hz2 : 32 < a[k].key.size
        · have hke : keyB a[k].key = false := by rw [keyB, Bool.and_eq_false_iff]; right; simp; omega
          have q1 : (V == -1) = true := by rw [hkb, hke]; rfl
          have q3 : decide (32 < a[k].key.size) = true := decide_eq_true hz2
          have q4 : decide ((32 : Int) < (a[k].key.size : Int)) = true := by simp; omega
          have HC := Lib.hid hc
          clear hkb hke hr hV hz hz2 hc
          go_wp2_with fail
          refine (HC.out _).mono ?_
          rintro e w1 ⟨rfl, hb1⟩
          have N_ := Lib.hid (bl_then BL.out hb1)
          clear BL hb1
          have BL := N_
          clear N_
          have c1 := (BL.out.cell (World.block_lt_of_cell? w _ K0.out)).trans K0.out
          go_wp2
          go_roundw
          case rel => exact ⟨k + 1, by omega, by go_num, BL⟩
          case measure => simp [intOf]; omega
        · have hke : keyB a[k].key = true := (keyB_iff _).2 ⟨by omega, by omega⟩
          have q1 : (V == -1) = false := by rw [hkb, hke]; rfl
          have q3 : decide (32 < a[k].key.size) = false := decide_eq_false hz2
          have q4 : decide ((32 : Int) < (a[k].key.size : Int)) = false := by simp; omega
          have HC := Lib.hid hc
          clear hkb hke hr hV hz hz2 hc
          go_wp2_with fail
          refine (HC.out _).mono ?_
          rintro e w1 ⟨rfl, hb1⟩
          have N_ := Lib.hid (bl_then BL.out hb1)
          clear BL hb1
          have BL := N_
          clear N_
          have c1 := (BL.out.cell (World.block_lt_of_cell? w _ K0.out)).trans K0.out
          go_wp2
          go_roundw
          case rel => exact ⟨k + 1, by omega, by go_num, BL⟩
          case measure => simp [intOf]; omega
    · obtain rfl : k = a.length := by omega
      have i1 : decide ((a.length : Int) < (a.length : Int)) = false := by simp
      have i2 : decide (a.length < a.length) = false := by simp
      by_cases n0 : n < 0
      · have e0 : decide (n < 0) = true := decide_eq_true n0
        go_wp2
        go_ret
        exact ⟨rfl, BL.out⟩
      have e0 : decide (n < 0) = false := decide_eq_false n0
      by_cases n1 : 4095 < n
      · have e1 : decide (4095 < n) = true := decide_eq_true n1
        go_wp2
        go_ret
        exact ⟨rfl, BL.out⟩
      have e1 : decide (4095 < n) = false := decide_eq_false n1
      by_cases m0 : n2 < 0
      · have f0 : decide (n2 < 0) = true := decide_eq_true m0
        go_wp2
        go_ret
        exact ⟨rfl, BL.out⟩
      have f0 : decide (n2 < 0) = false := decide_eq_false m0
      by_cases m1 : 4095 < n2
      · have f1 : decide (4095 < n2) = true := decide_eq_true m1
        go_wp2
        go_ret
        exact ⟨rfl, BL.out⟩
      have f1 : decide (4095 < n2) = false := decide_eq_false m1
      by_cases la_ : listB a = true
      · by_cases lb_ : listB b = true
        · skip
          have hsn : segB n = true := by simp [segB]; omega
          have hsm : segB n2 = true := by simp [segB]; omega
          have hfa := form_yes' hsn la_
          have hfb := form_yes' hsm lb_
          obtain ⟨X, hX⟩ : ∃ X, X = formS n a := ⟨_, rfl⟩
          obtain ⟨Y, hY⟩ : ∃ Y, Y = formS n2 b := ⟨_, rfl⟩
          have HXs := Lib.hid (show X.size ≤ 70368744177664 by
            have := formL_len (n := n.toNat) (small_of_list la_) la
            rw [hX, hfa.1, sizeL]; omega)
          have hXY : (X.toList == Y.toList) = (decide (n = n2) && decide (a = b)) := by
            rw [str_eq, hX, hY, hfa.1, hfb.1, form_differ (by omega) (by omega)]
            congr 1
            by_cases e : n = n2
            · subst e; simp
            · rw [decide_eq_false (by omega), decide_eq_false e]
          have hsumY : ∀ k : Nat, validB a k = true → ¬ a.length = 0 → sumP n a k = (cutS X k, 0) := fun k hv h0 => by
            obtain ⟨q, rfl, _⟩ := segB_pos hsn
            rw [sum_yes hsn (wd_of_valid hv) hv h0, (cut_yes (wd_of_valid hv)).1, hX, hfa.1]
            rfl
          have HFA := Lib.hid (show ∀ (A' : Option Addr) (c' : Nat) (W : World), Rd W A' a → Calls Try.prog 45 #[.int .i64 n, .slice A' a.length c'] W fun e w' => e = .returned (.tuple #[.string X, .int .i64 0]) ∧ Below W.heap.size W w' from fun A' c' W hr => by
            have := segForm_any A' c' n a la W hr
            rw [← hX, hfa.2] at this
            exact this)
          have HFB := Lib.hid (show ∀ (A' : Option Addr) (c' : Nat) (W : World), Rd W A' b → Calls Try.prog 45 #[.int .i64 n2, .slice A' b.length c'] W fun e w' => e = .returned (.tuple #[.string Y, .int .i64 0]) ∧ Below W.heap.size W w' from fun A' c' W hr => by
            have := segForm_any A' c' n2 b lb W hr
            rw [← hY, hfb.2] at this
            exact this)
          have HL := Lib.hid hsumY
          clear hX hY hfa hfb
          by_cases hnm : n = n2
          · by_cases hab : a = b
            · have q1 : (X.toList == Y.toList) = true := by rw [hXY, decide_eq_true hnm, decide_eq_true hab]; rfl
              have q2 : (n == n2) = true := by simpa using hnm
              have HD := Lib.hid (decide_eq_true hab)
              clear hXY hnm hab hsumY
              go_wp2_with fail
              refine (refList_any A c a _ (HA.out.below BL.out)).mono ?_
              rintro e w1 ⟨rfl, hb1⟩
              rw [la_]
              have N_ := Lib.hid (bl_drawn BL.out hb1)
              clear BL hb1
              have BL := N_
              clear N_
              go_wp2_with fail
              refine (refList_any B d b _ (HB.out.below BL.out)).mono ?_
              rintro e w1 ⟨rfl, hb1⟩
              rw [lb_]
              have N_ := Lib.hid (bl_drawn BL.out hb1)
              clear BL hb1
              have BL := N_
              clear N_
              go_wp2_with (at_builtin; refine app_twin rfl (.tmp 85) (.tmp 86) _ rfl Try.underlying37 hi0 hz0 hz1 hz2 rfl rfl A a.length c a rfl rfl (HA.out.below BL.out) (by omega) ?_; intro v2 w2 ho_ hb_; obtain ⟨A2, c2, rfl, _, hr2⟩ := ho_.rd' (by omega); have R2 := Lib.hid hr2; have N_ := Lib.hid (bl_then BL.out hb_); clear BL; have BL := N_; clear N_ ho_ hb_ hr2)
              refine (HFA.out A2 c2 _ R2.out).mono ?_
              rintro e w1 ⟨rfl, hb1⟩
              have N_ := Lib.hid (bl_then BL.out hb1)
              clear BL hb1
              have BL := N_
              clear N_
              clear R2
              go_wp2_with (at_builtin; refine app_twin rfl (.tmp 93) (.tmp 94) _ rfl Try.underlying37 hi0 hz0 hz1 hz2 rfl rfl B b.length d b rfl rfl (HB.out.below BL.out) (by omega) ?_; intro v2 w2 ho_ hb_; obtain ⟨A2, c2, rfl, _, hr2⟩ := ho_.rd' (by omega); have R2 := Lib.hid hr2; have N_ := Lib.hid (bl_then BL.out hb_); clear BL; have BL := N_; clear N_ ho_ hb_ hr2)
              refine (HFB.out A2 c2 _ R2.out).mono ?_
              rintro e w1 ⟨rfl, hb1⟩
              have N_ := Lib.hid (bl_then BL.out hb1)
              clear BL hb1
              have BL := N_
              clear N_
              clear R2
              go_wp2_with fail
              refine (same_any A B c d a b _ (HA.out.below BL.out) (HB.out.below BL.out)).mono ?_
              rintro e w1 ⟨rfl, hb1⟩
              rw [HD.out]
              have N_ := Lib.hid (bl_drawn BL.out hb1)
              clear BL hb1
              have BL := N_
              clear N_
              have hsumY := HL.out
              by_cases hv : validB a wd = true
              · by_cases h0 : a.length = 0
                · have HP := Lib.hid (show (sumP n a wd).1 = ⟨#[]⟩ ∧ (sumP n a wd).2 = 0 ∧ True by rw [sum_nil hsn (wd_of_valid hv) hv h0]; exact ⟨rfl, rfl, trivial⟩)
                  have HQ := Lib.hid hv
                  obtain rfl : a = [] := List.eq_nil_of_length_eq_zero h0
                  clear h0 hv
                  go_wp2_with (at_builtin; refine app_twin rfl (.tmp 121) (.tmp 122) _ rfl Try.underlying37 hi0 hz0 hz1 hz2 rfl rfl A 0 c [] rfl rfl (HA.out.below BL.out) (by omega) ?_; intro v2 w2 ho_ hb_; obtain ⟨A2, c2, rfl, _, hr2⟩ := ho_.rd' (by omega); have R2 := Lib.hid hr2; have N_ := Lib.hid (bl_then BL.out hb_); clear BL; have BL := N_; clear N_ ho_ hb_ hr2)
                  refine (segSum_any A2 c2 n [] wd la _ R2.out).mono ?_
                  rintro e w1 ⟨rfl, hb1⟩
                  rw [HP.out.1, HP.out.2.1]
                  have N_ := Lib.hid (bl_then BL.out hb1)
                  clear BL hb1
                  have BL := N_
                  clear N_
                  go_wp2_with fail
                  refine (refValid_any A c [] wd _ (HA.out.below BL.out)).mono ?_
                  rintro e w1 ⟨rfl, hb1⟩
                  rw [HQ.out]
                  have N_ := Lib.hid (bl_drawn BL.out hb1)
                  clear BL hb1
                  have BL := N_
                  clear N_
                  go_wp2
                  go_ret
                  exact ⟨rfl, BL.out⟩
                · obtain ⟨k, rfl, k1, k2⟩ := wdB_pos (wd_of_valid hv)
                  have HQ := Lib.hid hv
                  obtain ⟨S, hS⟩ : ∃ S, S = cutS X k := ⟨_, rfl⟩
                  have HP := Lib.hid (show (sumP n a k).1 = S ∧ (sumP n a k).2 = 0 ∧ (S.size : Int) = (k : Int) ∧ cutE k = 0 by
                    have hy := cut_yes (s := X) (wd_of_valid hv)
                    have hs := hsumY k hv h0
                    rw [hs, hS, hy.1]
                    exact ⟨rfl, rfl, by rw [sizeL]; simp [cutL], hy.2⟩)
                  have HC := Lib.hid (show ∀ W, Calls Try.prog 52 #[.string X, .int .i64 k] W fun e w' => e = .returned (.tuple #[.string S, .int .i64 0]) ∧ Below W.heap.size W w' from fun W => by
                    have := cut_any X k HXs.out W
                    rw [← hS, HP.out.2.2.2] at this
                    exact this)
                  have z1 : ((S.size : Int) == (k : Int)) = true := by rw [HP.out.2.2.1]; simp
                  have z2 : (S.size == k) = true := by have := HP.out.2.2.1; rw [beq_iff_eq]; omega
                  have b1 : ((a.length : Int) == 0) = false := by rw [beq_eq_false_iff_ne]; omega
                  have b2 : (a.length == 0) = false := by rw [beq_eq_false_iff_ne]; omega
                  have b4 : a.isEmpty = false := by cases a with
                    | nil => exact absurd rfl h0
                    | cons => rfl
                  clear h0 hv hS
                  go_wp2_with (at_builtin; refine app_twin rfl (.tmp 121) (.tmp 122) _ rfl Try.underlying37 hi0 hz0 hz1 hz2 rfl rfl A a.length c a rfl rfl (HA.out.below BL.out) (by omega) ?_; intro v2 w2 ho_ hb_; obtain ⟨A2, c2, rfl, _, hr2⟩ := ho_.rd' (by omega); have R2 := Lib.hid hr2; have N_ := Lib.hid (bl_then BL.out hb_); clear BL; have BL := N_; clear N_ ho_ hb_ hr2)
                  refine (segSum_any A2 c2 n a k la _ R2.out).mono ?_
                  rintro e w1 ⟨rfl, hb1⟩
                  rw [HP.out.1, HP.out.2.1]
                  have N_ := Lib.hid (bl_then BL.out hb1)
                  clear BL hb1
                  have BL := N_
                  clear N_
                  go_wp2_with fail
                  refine (refValid_any A c a k _ (HA.out.below BL.out)).mono ?_
                  rintro e w1 ⟨rfl, hb1⟩
                  rw [HQ.out]
                  have N_ := Lib.hid (bl_drawn BL.out hb1)
                  clear BL hb1
                  have BL := N_
                  clear N_
                  go_wp2_with fail
                  refine (HC.out _).mono ?_
                  rintro e w1 ⟨rfl, hb1⟩
                  have N_ := Lib.hid (bl_then BL.out hb1)
                  clear BL hb1
                  have BL := N_
                  clear N_
                  go_wp2
                  go_ret
                  exact ⟨rfl, BL.out⟩
              · have hv' : validB a wd = false := by simpa using hv
                obtain ⟨E, hE, hE0⟩ : ∃ E, sumP n a wd = (⟨#[]⟩, E) ∧ (E != 0) = true := sum_none hsn hv'
                have HP := Lib.hid (show (sumP n a wd).1 = ⟨#[]⟩ ∧ (sumP n a wd).2 = E ∧ True by rw [hE]; exact ⟨rfl, rfl, trivial⟩)
                have HQ := Lib.hid hv'
                clear hv hv' hE
                go_wp2_with (at_builtin; refine app_twin rfl (.tmp 121) (.tmp 122) _ rfl Try.underlying37 hi0 hz0 hz1 hz2 rfl rfl A a.length c a rfl rfl (HA.out.below BL.out) (by omega) ?_; intro v2 w2 ho_ hb_; obtain ⟨A2, c2, rfl, _, hr2⟩ := ho_.rd' (by omega); have R2 := Lib.hid hr2; have N_ := Lib.hid (bl_then BL.out hb_); clear BL; have BL := N_; clear N_ ho_ hb_ hr2)
                refine (segSum_any A2 c2 n a wd la _ R2.out).mono ?_
                rintro e w1 ⟨rfl, hb1⟩
                rw [HP.out.1, HP.out.2.1]
                have N_ := Lib.hid (bl_then BL.out hb1)
                clear BL hb1
                have BL := N_
                clear N_
                go_wp2_with fail
                refine (refValid_any A c a wd _ (HA.out.below BL.out)).mono ?_
                rintro e w1 ⟨rfl, hb1⟩
                rw [HQ.out]
                have N_ := Lib.hid (bl_drawn BL.out hb1)
                clear BL hb1
                have BL := N_
                clear N_
                go_wp2
                go_ret
                exact ⟨rfl, BL.out⟩
            · have q1 : (X.toList == Y.toList) = false := by rw [hXY, decide_eq_false hab, Bool.and_false]
              have q2 : (n == n2) = true := by simpa using hnm
              have HD := Lib.hid (decide_eq_false hab)
              clear hXY hnm hab hsumY
              go_wp2_with fail
              refine (refList_any A c a _ (HA.out.below BL.out)).mono ?_
              rintro e w1 ⟨rfl, hb1⟩
              rw [la_]
              have N_ := Lib.hid (bl_drawn BL.out hb1)
              clear BL hb1
              have BL := N_
              clear N_
              go_wp2_with fail
              refine (refList_any B d b _ (HB.out.below BL.out)).mono ?_
              rintro e w1 ⟨rfl, hb1⟩
              rw [lb_]
              have N_ := Lib.hid (bl_drawn BL.out hb1)
              clear BL hb1
              have BL := N_
              clear N_
              go_wp2_with (at_builtin; refine app_twin rfl (.tmp 85) (.tmp 86) _ rfl Try.underlying37 hi0 hz0 hz1 hz2 rfl rfl A a.length c a rfl rfl (HA.out.below BL.out) (by omega) ?_; intro v2 w2 ho_ hb_; obtain ⟨A2, c2, rfl, _, hr2⟩ := ho_.rd' (by omega); have R2 := Lib.hid hr2; have N_ := Lib.hid (bl_then BL.out hb_); clear BL; have BL := N_; clear N_ ho_ hb_ hr2)
              refine (HFA.out A2 c2 _ R2.out).mono ?_
              rintro e w1 ⟨rfl, hb1⟩
              have N_ := Lib.hid (bl_then BL.out hb1)
              clear BL hb1
              have BL := N_
              clear N_
              clear R2
              go_wp2_with (at_builtin; refine app_twin rfl (.tmp 93) (.tmp 94) _ rfl Try.underlying37 hi0 hz0 hz1 hz2 rfl rfl B b.length d b rfl rfl (HB.out.below BL.out) (by omega) ?_; intro v2 w2 ho_ hb_; obtain ⟨A2, c2, rfl, _, hr2⟩ := ho_.rd' (by omega); have R2 := Lib.hid hr2; have N_ := Lib.hid (bl_then BL.out hb_); clear BL; have BL := N_; clear N_ ho_ hb_ hr2)
              refine (HFB.out A2 c2 _ R2.out).mono ?_
              rintro e w1 ⟨rfl, hb1⟩
              have N_ := Lib.hid (bl_then BL.out hb1)
              clear BL hb1
              have BL := N_
              clear N_
              clear R2
              go_wp2_with fail
              refine (same_any A B c d a b _ (HA.out.below BL.out) (HB.out.below BL.out)).mono ?_
              rintro e w1 ⟨rfl, hb1⟩
              rw [HD.out]
              have N_ := Lib.hid (bl_drawn BL.out hb1)
              clear BL hb1
              have BL := N_
              clear N_
              have hsumY := HL.out
              by_cases hv : validB a wd = true
              · by_cases h0 : a.length = 0
                · have HP := Lib.hid (show (sumP n a wd).1 = ⟨#[]⟩ ∧ (sumP n a wd).2 = 0 ∧ True by rw [sum_nil hsn (wd_of_valid hv) hv h0]; exact ⟨rfl, rfl, trivial⟩)
                  have HQ := Lib.hid hv
                  obtain rfl : a = [] := List.eq_nil_of_length_eq_zero h0
                  clear h0 hv
                  go_wp2_with (at_builtin; refine app_twin rfl (.tmp 121) (.tmp 122) _ rfl Try.underlying37 hi0 hz0 hz1 hz2 rfl rfl A 0 c [] rfl rfl (HA.out.below BL.out) (by omega) ?_; intro v2 w2 ho_ hb_; obtain ⟨A2, c2, rfl, _, hr2⟩ := ho_.rd' (by omega); have R2 := Lib.hid hr2; have N_ := Lib.hid (bl_then BL.out hb_); clear BL; have BL := N_; clear N_ ho_ hb_ hr2)
                  refine (segSum_any A2 c2 n [] wd la _ R2.out).mono ?_
                  rintro e w1 ⟨rfl, hb1⟩
                  rw [HP.out.1, HP.out.2.1]
                  have N_ := Lib.hid (bl_then BL.out hb1)
                  clear BL hb1
                  have BL := N_
                  clear N_
                  go_wp2_with fail
                  refine (refValid_any A c [] wd _ (HA.out.below BL.out)).mono ?_
                  rintro e w1 ⟨rfl, hb1⟩
                  rw [HQ.out]
                  have N_ := Lib.hid (bl_drawn BL.out hb1)
                  clear BL hb1
                  have BL := N_
                  clear N_
                  go_wp2
                  go_ret
                  exact ⟨rfl, BL.out⟩
                · obtain ⟨k, rfl, k1, k2⟩ := wdB_pos (wd_of_valid hv)
                  have HQ := Lib.hid hv
                  obtain ⟨S, hS⟩ : ∃ S, S = cutS X k := ⟨_, rfl⟩
                  have HP := Lib.hid (show (sumP n a k).1 = S ∧ (sumP n a k).2 = 0 ∧ (S.size : Int) = (k : Int) ∧ cutE k = 0 by
                    have hy := cut_yes (s := X) (wd_of_valid hv)
                    have hs := hsumY k hv h0
                    rw [hs, hS, hy.1]
                    exact ⟨rfl, rfl, by rw [sizeL]; simp [cutL], hy.2⟩)
                  have HC := Lib.hid (show ∀ W, Calls Try.prog 52 #[.string X, .int .i64 k] W fun e w' => e = .returned (.tuple #[.string S, .int .i64 0]) ∧ Below W.heap.size W w' from fun W => by
                    have := cut_any X k HXs.out W
                    rw [← hS, HP.out.2.2.2] at this
                    exact this)
                  have z1 : ((S.size : Int) == (k : Int)) = true := by rw [HP.out.2.2.1]; simp
                  have z2 : (S.size == k) = true := by have := HP.out.2.2.1; rw [beq_iff_eq]; omega
                  have b1 : ((a.length : Int) == 0) = false := by rw [beq_eq_false_iff_ne]; omega
                  have b2 : (a.length == 0) = false := by rw [beq_eq_false_iff_ne]; omega
                  have b4 : a.isEmpty = false := by cases a with
                    | nil => exact absurd rfl h0
                    | cons => rfl
                  clear h0 hv hS
                  go_wp2_with (at_builtin; refine app_twin rfl (.tmp 121) (.tmp 122) _ rfl Try.underlying37 hi0 hz0 hz1 hz2 rfl rfl A a.length c a rfl rfl (HA.out.below BL.out) (by omega) ?_; intro v2 w2 ho_ hb_; obtain ⟨A2, c2, rfl, _, hr2⟩ := ho_.rd' (by omega); have R2 := Lib.hid hr2; have N_ := Lib.hid (bl_then BL.out hb_); clear BL; have BL := N_; clear N_ ho_ hb_ hr2)
                  refine (segSum_any A2 c2 n a k la _ R2.out).mono ?_
                  rintro e w1 ⟨rfl, hb1⟩
                  rw [HP.out.1, HP.out.2.1]
                  have N_ := Lib.hid (bl_then BL.out hb1)
                  clear BL hb1
                  have BL := N_
                  clear N_
                  go_wp2_with fail
                  refine (refValid_any A c a k _ (HA.out.below BL.out)).mono ?_
                  rintro e w1 ⟨rfl, hb1⟩
                  rw [HQ.out]
                  have N_ := Lib.hid (bl_drawn BL.out hb1)
                  clear BL hb1
                  have BL := N_
                  clear N_
                  go_wp2_with fail
                  refine (HC.out _).mono ?_
                  rintro e w1 ⟨rfl, hb1⟩
                  have N_ := Lib.hid (bl_then BL.out hb1)
                  clear BL hb1
                  have BL := N_
                  clear N_
                  go_wp2
                  go_ret
                  exact ⟨rfl, BL.out⟩
              · have hv' : validB a wd = false := by simpa using hv
                obtain ⟨E, hE, hE0⟩ : ∃ E, sumP n a wd = (⟨#[]⟩, E) ∧ (E != 0) = true := sum_none hsn hv'
                have HP := Lib.hid (show (sumP n a wd).1 = ⟨#[]⟩ ∧ (sumP n a wd).2 = E ∧ True by rw [hE]; exact ⟨rfl, rfl, trivial⟩)
                have HQ := Lib.hid hv'
                clear hv hv' hE
                go_wp2_with (at_builtin; refine app_twin rfl (.tmp 121) (.tmp 122) _ rfl Try.underlying37 hi0 hz0 hz1 hz2 rfl rfl A a.length c a rfl rfl (HA.out.below BL.out) (by omega) ?_; intro v2 w2 ho_ hb_; obtain ⟨A2, c2, rfl, _, hr2⟩ := ho_.rd' (by omega); have R2 := Lib.hid hr2; have N_ := Lib.hid (bl_then BL.out hb_); clear BL; have BL := N_; clear N_ ho_ hb_ hr2)
                refine (segSum_any A2 c2 n a wd la _ R2.out).mono ?_
                rintro e w1 ⟨rfl, hb1⟩
                rw [HP.out.1, HP.out.2.1]
                have N_ := Lib.hid (bl_then BL.out hb1)
                clear BL hb1
                have BL := N_
                clear N_
                go_wp2_with fail
                refine (refValid_any A c a wd _ (HA.out.below BL.out)).mono ?_
                rintro e w1 ⟨rfl, hb1⟩
                rw [HQ.out]
                have N_ := Lib.hid (bl_drawn BL.out hb1)
                clear BL hb1
                have BL := N_
                clear N_
                go_wp2
                go_ret
                exact ⟨rfl, BL.out⟩
          · have q1 : (X.toList == Y.toList) = false := by rw [hXY, decide_eq_false hnm, Bool.false_and]
            have q2 : (n == n2) = false := by simpa using hnm
            clear hXY hnm hsumY
            go_wp2_with fail
            refine (refList_any A c a _ (HA.out.below BL.out)).mono ?_
            rintro e w1 ⟨rfl, hb1⟩
            rw [la_]
            have N_ := Lib.hid (bl_drawn BL.out hb1)
            clear BL hb1
            have BL := N_
            clear N_
            go_wp2_with fail
            refine (refList_any B d b _ (HB.out.below BL.out)).mono ?_
            rintro e w1 ⟨rfl, hb1⟩
            rw [lb_]
            have N_ := Lib.hid (bl_drawn BL.out hb1)
            clear BL hb1
            have BL := N_
            clear N_
            go_wp2_with (at_builtin; refine app_twin rfl (.tmp 85) (.tmp 86) _ rfl Try.underlying37 hi0 hz0 hz1 hz2 rfl rfl A a.length c a rfl rfl (HA.out.below BL.out) (by omega) ?_; intro v2 w2 ho_ hb_; obtain ⟨A2, c2, rfl, _, hr2⟩ := ho_.rd' (by omega); have R2 := Lib.hid hr2; have N_ := Lib.hid (bl_then BL.out hb_); clear BL; have BL := N_; clear N_ ho_ hb_ hr2)
            refine (HFA.out A2 c2 _ R2.out).mono ?_
            rintro e w1 ⟨rfl, hb1⟩
            have N_ := Lib.hid (bl_then BL.out hb1)
            clear BL hb1
            have BL := N_
            clear N_
            clear R2
            go_wp2_with (at_builtin; refine app_twin rfl (.tmp 93) (.tmp 94) _ rfl Try.underlying37 hi0 hz0 hz1 hz2 rfl rfl B b.length d b rfl rfl (HB.out.below BL.out) (by omega) ?_; intro v2 w2 ho_ hb_; obtain ⟨A2, c2, rfl, _, hr2⟩ := ho_.rd' (by omega); have R2 := Lib.hid hr2; have N_ := Lib.hid (bl_then BL.out hb_); clear BL; have BL := N_; clear N_ ho_ hb_ hr2)
            refine (HFB.out A2 c2 _ R2.out).mono ?_
            rintro e w1 ⟨rfl, hb1⟩
            have N_ := Lib.hid (bl_then BL.out hb1)
            clear BL hb1
            have BL := N_
            clear N_
            clear R2
            have hsumY := HL.out
            by_cases hv : validB a wd = true
            · by_cases h0 : a.length = 0
              · have HP := Lib.hid (show (sumP n a wd).1 = ⟨#[]⟩ ∧ (sumP n a wd).2 = 0 ∧ True by rw [sum_nil hsn (wd_of_valid hv) hv h0]; exact ⟨rfl, rfl, trivial⟩)
                have HQ := Lib.hid hv
                obtain rfl : a = [] := List.eq_nil_of_length_eq_zero h0
                clear h0 hv
                go_wp2_with (at_builtin; refine app_twin rfl (.tmp 121) (.tmp 122) _ rfl Try.underlying37 hi0 hz0 hz1 hz2 rfl rfl A 0 c [] rfl rfl (HA.out.below BL.out) (by omega) ?_; intro v2 w2 ho_ hb_; obtain ⟨A2, c2, rfl, _, hr2⟩ := ho_.rd' (by omega); have R2 := Lib.hid hr2; have N_ := Lib.hid (bl_then BL.out hb_); clear BL; have BL := N_; clear N_ ho_ hb_ hr2)
                refine (segSum_any A2 c2 n [] wd la _ R2.out).mono ?_
                rintro e w1 ⟨rfl, hb1⟩
                rw [HP.out.1, HP.out.2.1]
                have N_ := Lib.hid (bl_then BL.out hb1)
                clear BL hb1
                have BL := N_
                clear N_
                go_wp2_with fail
                refine (refValid_any A c [] wd _ (HA.out.below BL.out)).mono ?_
                rintro e w1 ⟨rfl, hb1⟩
                rw [HQ.out]
                have N_ := Lib.hid (bl_drawn BL.out hb1)
                clear BL hb1
                have BL := N_
                clear N_
                go_wp2
                go_ret
                exact ⟨rfl, BL.out⟩
              · obtain ⟨k, rfl, k1, k2⟩ := wdB_pos (wd_of_valid hv)
                have HQ := Lib.hid hv
                obtain ⟨S, hS⟩ : ∃ S, S = cutS X k := ⟨_, rfl⟩
                have HP := Lib.hid (show (sumP n a k).1 = S ∧ (sumP n a k).2 = 0 ∧ (S.size : Int) = (k : Int) ∧ cutE k = 0 by
                  have hy := cut_yes (s := X) (wd_of_valid hv)
                  have hs := hsumY k hv h0
                  rw [hs, hS, hy.1]
                  exact ⟨rfl, rfl, by rw [sizeL]; simp [cutL], hy.2⟩)
                have HC := Lib.hid (show ∀ W, Calls Try.prog 52 #[.string X, .int .i64 k] W fun e w' => e = .returned (.tuple #[.string S, .int .i64 0]) ∧ Below W.heap.size W w' from fun W => by
                  have := cut_any X k HXs.out W
                  rw [← hS, HP.out.2.2.2] at this
                  exact this)
                have z1 : ((S.size : Int) == (k : Int)) = true := by rw [HP.out.2.2.1]; simp
                have z2 : (S.size == k) = true := by have := HP.out.2.2.1; rw [beq_iff_eq]; omega
                have b1 : ((a.length : Int) == 0) = false := by rw [beq_eq_false_iff_ne]; omega
                have b2 : (a.length == 0) = false := by rw [beq_eq_false_iff_ne]; omega
                have b4 : a.isEmpty = false := by cases a with
                  | nil => exact absurd rfl h0
                  | cons => rfl
                clear h0 hv hS
                go_wp2_with (at_builtin; refine app_twin rfl (.tmp 121) (.tmp 122) _ rfl Try.underlying37 hi0 hz0 hz1 hz2 rfl rfl A a.length c a rfl rfl (HA.out.below BL.out) (by omega) ?_; intro v2 w2 ho_ hb_; obtain ⟨A2, c2, rfl, _, hr2⟩ := ho_.rd' (by omega); have R2 := Lib.hid hr2; have N_ := Lib.hid (bl_then BL.out hb_); clear BL; have BL := N_; clear N_ ho_ hb_ hr2)
                refine (segSum_any A2 c2 n a k la _ R2.out).mono ?_
                rintro e w1 ⟨rfl, hb1⟩
                rw [HP.out.1, HP.out.2.1]
                have N_ := Lib.hid (bl_then BL.out hb1)
                clear BL hb1
                have BL := N_
                clear N_
                go_wp2_with fail
                refine (refValid_any A c a k _ (HA.out.below BL.out)).mono ?_
                rintro e w1 ⟨rfl, hb1⟩
                rw [HQ.out]
                have N_ := Lib.hid (bl_drawn BL.out hb1)
                clear BL hb1
                have BL := N_
                clear N_
                go_wp2_with fail
                refine (HC.out _).mono ?_
                rintro e w1 ⟨rfl, hb1⟩
                have N_ := Lib.hid (bl_then BL.out hb1)
                clear BL hb1
                have BL := N_
                clear N_
                go_wp2
                go_ret
                exact ⟨rfl, BL.out⟩
            · have hv' : validB a wd = false := by simpa using hv
              obtain ⟨E, hE, hE0⟩ : ∃ E, sumP n a wd = (⟨#[]⟩, E) ∧ (E != 0) = true := sum_none hsn hv'
              have HP := Lib.hid (show (sumP n a wd).1 = ⟨#[]⟩ ∧ (sumP n a wd).2 = E ∧ True by rw [hE]; exact ⟨rfl, rfl, trivial⟩)
              have HQ := Lib.hid hv'
              clear hv hv' hE
              go_wp2_with (at_builtin; refine app_twin rfl (.tmp 121) (.tmp 122) _ rfl Try.underlying37 hi0 hz0 hz1 hz2 rfl rfl A a.length c a rfl rfl (HA.out.below BL.out) (by omega) ?_; intro v2 w2 ho_ hb_; obtain ⟨A2, c2, rfl, _, hr2⟩ := ho_.rd' (by omega); have R2 := Lib.hid hr2; have N_ := Lib.hid (bl_then BL.out hb_); clear BL; have BL := N_; clear N_ ho_ hb_ hr2)
              refine (segSum_any A2 c2 n a wd la _ R2.out).mono ?_
              rintro e w1 ⟨rfl, hb1⟩
              rw [HP.out.1, HP.out.2.1]
              have N_ := Lib.hid (bl_then BL.out hb1)
              clear BL hb1
              have BL := N_
              clear N_
              go_wp2_with fail
              refine (refValid_any A c a wd _ (HA.out.below BL.out)).mono ?_
              rintro e w1 ⟨rfl, hb1⟩
              rw [HQ.out]
              have N_ := Lib.hid (bl_drawn BL.out hb1)
              clear BL hb1
              have BL := N_
              clear N_
              go_wp2
              go_ret
              exact ⟨rfl, BL.out⟩
        · have lb' : listB b = false := by simpa using lb_
          go_wp2_with fail
          refine (refList_any A c a _ (HA.out.below BL.out)).mono ?_
          rintro e w1 ⟨rfl, hb1⟩
          rw [la_]
          have N_ := Lib.hid (bl_drawn BL.out hb1)
          clear BL hb1
          have BL := N_
          clear N_
          go_wp2_with fail
          refine (refList_any B d b _ (HB.out.below BL.out)).mono ?_
          rintro e w1 ⟨rfl, hb1⟩
          rw [lb']
          have N_ := Lib.hid (bl_drawn BL.out hb1)
          clear BL hb1
          have BL := N_
          clear N_
          go_wp2
          go_ret
          exact ⟨rfl, BL.out⟩
      · have la' : listB a = false := by simpa using la_
        go_wp2_with fail
        refine (refList_any A c a _ (HA.out.below BL.out)).mono ?_
        rintro e w1 ⟨rfl, hb1⟩
        rw [la']
        have N_ := Lib.hid (bl_drawn BL.out hb1)
        clear BL hb1
        have BL := N_
        clear N_
        go_wp2
        go_ret
        exact ⟨rfl, BL.out⟩
end Go.Proofs.Ytejodabmddcanaa
