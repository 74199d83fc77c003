/- DERIVED. New sketches, their cells told. -/
import Derived.Test.YtpklkjekkbpeoaaSkLay
import Derived.Test.YtpklkjekkbpeoaaSkPl2
import Derived.OwnWalk
import Derived.WalkMore
import Derived.Lib.Strings
namespace Go.Proofs.Ytpklkjekkbpeoaa
open Go.RowKit
set_option linter.unusedVariables false
set_option linter.unusedSimpArgs false
attribute [local irreducible] mixN

theorem cel_info : (Try.prog.info? 81).map (fun i => (i.zero, i.size, i.bytes)) = some (some (.agg #[.int .i16 0, .int .u64 0, .int .u32 0]), 3, 24) := by kernel_rfl
theorem made_zero (n : Nat) : (madeCells #[.int .i16 0, .int .u64 0, .int .u32 0] (n * 3)).toList = GR.cs celK (zL n) := by
  apply List.ext_getElem (by rw [GR.cs_length]; simp [madeCells, zL_length]; rfl)
  intro k h1 h2
  have hk : k < n * 3 := by simpa [madeCells] using h1
  have e := GR.cs_at (K := celK) (zL n) (k / 3) (k % 3) zc (by simp only [zL, List.getElem?_replicate]; rw [if_pos (by omega)]) (Nat.mod_lt _ (by omega))
  rw [show k / 3 * celK.s + k % 3 = k from by show k / 3 * 3 + k % 3 = k; omega, List.getElem?_eq_getElem h2] at e
  have h3 : k % 3 = 0 ∨ k % 3 = 1 ∨ k % 3 = 2 := by omega
  simp only [madeCells, Array.getElem_toList, Array.getElem_map, Array.getElem_range]
  rcases h3 with h | h | h <;>
  · simp only [h] at e ⊢
    have e' := Option.some.inj e
    rw [e', show #[Value.int IntKind.i16 0, Value.int IntKind.u64 0, Value.int IntKind.u32 0].size = 3 from rfl, h]
    rfl
/-- A sketch: its block, its cells in a row of their own. -/
structure Skt (w : World) (B g c cap : Nat) (L : List Cel) : Prop where
  b : GR.Blk w g 77 #[.slice (some ⟨c, 0, none⟩) L.length cap]
  o : GR.Own celK w B (.slice (some ⟨c, 0, none⟩) L.length cap) L
  n3 : 3 ≤ L.length
  n2 : L.length ≤ 256
theorem Skt.ne {w : World} {B g c cap : Nat} {L : List Cel} (h : Skt w B g c cap L) : g ≠ c := fun e => GR.own_blk_ne h.o h.b (by decide) (by simp [Value.ownBlock, e])
theorem Skt.below {w w' : World} {B g c cap : Nat} {L : List Cel} (h : Skt w B g c cap L) (hb : Below w.heap.size w w') : Skt w' B g c cap L := ⟨h.b.below hb h.b.lt, h.o.below hb, h.n3, h.n2⟩
theorem Skt.rd {w : World} {B g c cap : Nat} {L : List Cel} (h : Skt w B g c cap L) : L.length ≤ cap ∧ GR.Rd celK w (some ⟨c, 0, none⟩) L := (h.o.rd (by have := h.n2; show L.length * 24 ≤ _; omega)).2
theorem Skt.clt {w : World} {B g c cap : Nat} {L : List Cel} (h : Skt w B g c cap L) : B ≤ c ∧ c < w.heap.size := h.o.lt c (by simp [Value.ownBlock])
/-- One sketch is laid over, another one apart stays. -/
theorem Skt.far {w w' : World} {B g c cap d : Nat} {L : List Cel} (h : Skt w B g c cap L) (hg : w.grownBy w' (some d)) (h1 : c ≠ d) (h2 : g ≠ d) : Skt w' B g c cap L :=
  ⟨h.b.grown hg (by simpa using h2), h.o.grown hg (.inr (by simpa [Value.ownBlock] using h1)), h.n3, h.n2⟩
theorem Skt.laid {w w' : World} {B g c cap : Nat} {L M : List Cel} (h : Skt w B g c cap L) (hm : M.length = L.length) (ho : GR.Own celK w' B (.slice (some ⟨c, 0, none⟩) L.length cap) M) (hg : w.grownBy w' (some c)) : Skt w' B g c cap M :=
  ⟨by rw [hm]; exact h.b.grown hg (by simpa using h.ne), by rw [hm]; exact ho, by rw [hm]; exact h.n3, by rw [hm]; exact h.n2⟩
theorem own_some {w : World} {B : Nat} {v : Value} {L : List Cel} (h : GR.Own celK w B v L) (h0 : 0 < L.length) : ∃ c cap, v = .slice (some ⟨c, 0, none⟩) L.length cap := by
  rcases h.2 with ⟨_, h1⟩ | ⟨c, cap, cur, rfl, _⟩
  · omega
  · exact ⟨c, cap, rfl⟩

set_option maxRecDepth 100000 in
set_option maxHeartbeats 3200000 in
theorem newS_any (n : Nat) (h3 : 3 ≤ n) (hn : n ≤ 256) (w : World) : Calls Try.prog 16 #[.int .i64 (n : Int)] w fun e w' => (∃ g, e = .returned (.tuple #[.pointer (some ⟨g, 0, none⟩), .int .i64 0]) ∧ w.heap.size ≤ g ∧ ∃ c cap, Skt w' w.heap.size g c cap (zL n)) ∧ Below w.heap.size w w' := by
  obtain ⟨i0, hi0, hz0, hz1, hz2⟩ := info_parts cel_info
  have j0 : ¬ (n : Int) < 3 := by omega
  have j1 : ¬ (256 : Int) < (n : Int) := by omega
  go_enter Try.func16, Try.ntmps16
  go_wp2_with (refine wpList_make_full w rfl _ _ 37 rfl w.heap.size 81 i0 _ 3 Try.underlying37 hi0 hz0 hz1 .i64 .i64 n n n rfl rfl rfl rfl (by rw [hz2]; omega) (by simp only [maxLen]; omega) (Nat.le_refl _) ?_; intro W1 O_ G_; have G1 := Lib.hid G_; have O1 := Lib.hid O_; clear O_ G_)
  go_ret2
  have hb := GR.bl_of_grown (Below.refl _ _) G1.out (fun b hb => by cases hb)
  have ho : GR.Own celK W1 w.heap.size (.slice (some ⟨w.heap.size, 0, none⟩) n n) (zL n) := by
    have := O1.out
    rw [show (Value.agg #[.int .i16 0, .int .u64 0, .int .u32 0]).cells = #[.int .i16 0, .int .u64 0, .int .u32 0] from rfl, made_zero] at this
    unfold GR.Own
    rw [zL_length]
    exact this
  refine ⟨⟨W1.heap.size, rfl, hb.size, w.heap.size, n, ⟨?_, ?_, by rw [zL_length]; exact h3, by rw [zL_length]; exact hn⟩⟩, bl_alloc hb _⟩
  · rw [zL_length]; exact GR.Blk.new _ _ _
  · rw [zL_length]; exact ho.alloc _
theorem new_err (n : Int) (h : n < 3 ∨ 256 < n) (w : World) : Calls Try.prog 16 #[.int .i64 n] w fun e w' => e = .returned (.tuple #[.pointer none, .int .i64 1]) ∧ w = w' := by
  by_cases h1 : n < 3
  · go_enter Try.func16, Try.ntmps16
    go_wp2
    all_goals first | omega | (go_ret2; exact ⟨rfl, rfl⟩)
  · have h2 : 256 < n := by omega
    go_enter Try.func16, Try.ntmps16
    go_wp2
    all_goals first | omega | (go_ret2; exact ⟨rfl, rfl⟩)
set_option maxRecDepth 100000 in
set_option maxHeartbeats 3200000 in
theorem cloneC_any (c cap B : Nat) (L : List Cel) (w : World) (h0 : 0 < L.length) (hn : L.length ≤ 256) (ho : GR.Own celK w B (.slice (some ⟨c, 0, none⟩) L.length cap) L) :
    Calls Try.prog 39 #[.slice (some ⟨c, 0, none⟩) L.length cap] w fun e w' => ∃ d e2, e = .returned (.slice (some ⟨d, 0, none⟩) L.length e2) ∧ GR.Own celK w' w.heap.size (.slice (some ⟨d, 0, none⟩) L.length e2) L ∧ Below w.heap.size w w' := by
  obtain ⟨i0, hi0, hz0, hz1, hz2⟩ := info_parts cel_info
  have hlen : L.length * 24 ≤ 140737488355328 := by omega
  have hr := (ho.rd (by show L.length * 24 ≤ _; omega)).2.2
  have HR2 := Lib.hid (hr.alloc (.cells #[] 81))
  clear ho hr
  have hne : ∀ u : World, (binOp .eql 37 (.slice (some ⟨c, 0, none⟩) L.length cap) (.slice none 0 0)).run Try.prog u = .ok (.bool false) u := fun u => Lib.run_eql_slice_nil u 37 81 (some ⟨c, 0, none⟩) L.length cap 0 0 Try.underlying37
  have HB := Lib.hid (bl_alloc (Below.refl w.heap.size w) (.cells #[] 81))
  have HO := Lib.hid (GR.Own.lit0 (K := celK) w w.heap.size (Nat.le_refl _))
  go_enter Try.func39, Try.ntmps39
  go_wp2_with (at_builtin; refine GR.app_all (K := celK) rfl (.tmp 5) (.tmp 6) _ rfl Try.underlying37 hi0 hz0 hz1 hz2 rfl w.heap.size _ [] rfl HO.out (some ⟨c, 0, none⟩) L.length cap L rfl rfl HR2.out (by show (0 + L.length) * 24 ≤ _; omega) (by simp) ?_; intro v1 w1 ho hg hat; have HO1 := Lib.hid ho; have HB1 := Lib.hid (GR.bl_of_grown HB.out hg (fun b hb => (HO.out.lt b hb).1)); clear ho hg hat)
  go_ret
  have h1 : GR.Own celK w1 w.heap.size v1 L := by simpa using HO1.out
  obtain ⟨d, e2, rfl⟩ := own_some h1 h0
  exact ⟨d, e2, rfl, h1, HB1.out⟩
theorem cells_any (B g c cap : Nat) (L : List Cel) (w : World) (hs : Skt w B g c cap L) :
    Calls Try.prog 17 #[.pointer (some ⟨g, 0, none⟩)] w fun e w' => ∃ d e2, e = .returned (.slice (some ⟨d, 0, none⟩) L.length e2) ∧ GR.Own celK w' w.heap.size (.slice (some ⟨d, 0, none⟩) L.length e2) L ∧ Below w.heap.size w w' := by
  have hc := cloneC_any c cap B L w (by have := hs.n3; omega) hs.n2 hs.o
  have c0 : w.cell? ⟨g, 0, none⟩ = some (.slice (some ⟨c, 0, none⟩) L.length cap) := hs.b.cell 0
  go_enter Try.func17, Try.ntmps17
  go_wp2_with (go_at_call 39; refine (hc).mono ?_; rintro e w1 ⟨d, e2, rfl, h1, h2⟩)
  go_ret
  exact ⟨d, e2, rfl, h1, h2⟩
end Go.Proofs.Ytpklkjekkbpeoaa
