/- DERIVED. What segment.Diff hands to Merge: keyed, and the closure that adds a difference. -/
import Derived.Test.YtejodabmddcanaaSegDif
import Derived.Test.YtejodabmddcanaaSegAt
namespace Go.Proofs.Ytejodabmddcanaa
open Go.RowKit

theorem keyed_any (k s : ByteArray) (w : World) :
    Calls Try.prog 60 #[.agg #[.string k, .string s]] w fun e w' => e = .returned (.string k) ∧ Below w.heap.size w w' := by
  go_enter Try.func60, Try.ntmps60
  go_wp2
  go_ret
  exact ⟨rfl, by repeat (first | exact Below.refl _ _ | refine bl_drewN ?_ _ | refine bl_drew ?_ | refine bl_alloc ?_ _)⟩

/-- A pointer to an entry. -/
def Pt (w : World) (p : Value) (x : Ent) : Prop := ∃ h, p = .pointer (some ⟨h, 0, none⟩) ∧ GR.Blk w h 53 #[.string x.key, .string x.sum]

theorem empty_no {b : ByteArray} (h : b ≠ em) : b.toList.isEmpty = false := by
  cases hq : b.toList with
  | nil =>
    have h1 := str_eq (a := b) (b := em)
    have e0 : em.toList = [] := by rw [toList_eq]; rfl
    rw [hq, e0] at h1
    exact absurd (by simpa using h1) h
  | cons => rfl
theorem own_slice {w : World} {B : Nat} {v : Value} {l : List Dif} (h : GR.Own difK w B v l) (hb : l.length * 48 ≤ 140737488355328) : ∃ A n c, v = .slice A n c := by
  obtain ⟨A, c, e, _⟩ := h.rd' hb
  exact ⟨A, _, c, e⟩
/-- A store into another block leaves an own row as it was. -/
theorem own_far {w : World} {g B : Nat} {t : TypeId} {cs : Array Value} {v : Value} {l : List Dif} (h : GR.Own difK w B v l) (bg : GR.Blk w g t cs) (u : Value) (hne : 51 ≠ t := by decide) : GR.Own difK (w.setCell ⟨g, 0, none⟩ u) B v l :=
  h.grown (row := some g) ⟨rfl, rfl, rfl, by simp [World.setCell], fun k _ hk => Below.heap_setCell _ _ _ _ (by intro e; subst e; exact hk rfl)⟩ (.inr (GR.own_blk_ne h bg hne))

set_option maxRecDepth 100000 in
set_option maxHeartbeats 3200000 in
theorem each_left (B g : Nat) (key : ByteArray) (v : Value) (acc : List Dif) (w : World) (hx : Nat) (x : Ent) (bx : GR.Blk w hx 53 #[.string x.key, .string x.sum]) (hq : x.sum ≠ em)
    (hB : B ≤ g) (bg : GR.Blk w g 44 #[v]) (ho : GR.Own difK w B v acc) (hsz : (acc.length + 1) * 48 ≤ 140737488355328) :
    Calls Try.prog 61 #[.string key, .pointer (some ⟨hx, 0, none⟩), .pointer none, .pointer (some ⟨g, 0, none⟩)] w fun e w' => e = .returned (.tuple #[]) ∧ (∃ v', GR.Blk w' g 44 #[v'] ∧ GR.Own difK w' B v' (acc ++ [⟨key, x.sum, em⟩])) ∧ Below B w w' := by
  obtain ⟨i0, hi0, hz0, hz1, hz2⟩ := info_parts dif_info
  have c0 : w.cell? ⟨g, 0, none⟩ = some v := bg.cell 0
  have f0 := bg.frozen 0
  have lg := bg.lt
  have ng : g ≠ w.heap.size := Nat.ne_of_lt lg
  have x1 : w.cell? ⟨hx, 1, none⟩ = some (.string x.sum) := bx.cell 1
  have lx := bx.lt
  have nx : hx ≠ w.heap.size := Nat.ne_of_lt lx
  have q1 : x.sum.toList.isEmpty = false := empty_no (fun h => hq (by rw [h]))
  have BG := Lib.hid bg
  have HO := Lib.hid ho
  have hBw : B ≤ w.heap.size := Nat.le_trans hB (Nat.le_of_lt lg)
  clear bg ho hq
  go_enter Try.func61, Try.ntmps61
  go_wp2_with (at_builtin; refine GR.app_all (K := difK) rfl (.tmp 29) (.tmp 31) _ rfl Try.underlying44 hi0 hz0 hz1 hz2 rfl B _ acc rfl ((HO.out.alloc _).alloc _) _ 1 1 [⟨key, x.sum, em⟩] rfl rfl (GR.rd_new _ (by simp) (by show 48 ≤ 140737488355328; omega)) (by show (acc.length + 1) * 48 ≤ _; exact hsz) (by simp; omega) ?_; intro v3 w3 ho_ hg_ hat_; obtain ⟨A3, n3, c3, rfl⟩ := own_slice ho_ (by rw [List.length_append]; exact hsz); have B3 := Lib.hid (((BG.out.alloc _).alloc _).grown hg_ (Ne.symm (GR.own_blk_ne HO.out BG.out (by decide)))); have HO3 := Lib.hid ho_; have HB3 := Lib.hid ((((Below.refl B w).alloc hBw _).alloc (by simp; omega) _).grown hg_ (by simp; omega) (fun b hb => (HO.out.lt b hb).1)); clear ho_ hg_ hat_; have d0 : w3.cell? ⟨g, 0, none⟩ = some _ := B3.out.cell 0; have d1 := B3.out.frozen 0)
  go_end0
  exact ⟨rfl, ⟨_, B3.out.set_ 0 _, own_far HO3.out B3.out _⟩, HB3.out.setCell hB _⟩

set_option maxRecDepth 100000 in
set_option maxHeartbeats 3200000 in
theorem each_right (B g : Nat) (key : ByteArray) (v : Value) (acc : List Dif) (w : World) (hy : Nat) (y : Ent) (by_ : GR.Blk w hy 53 #[.string y.key, .string y.sum]) (hq : em ≠ y.sum)
    (hB : B ≤ g) (bg : GR.Blk w g 44 #[v]) (ho : GR.Own difK w B v acc) (hsz : (acc.length + 1) * 48 ≤ 140737488355328) :
    Calls Try.prog 61 #[.string key, .pointer none, .pointer (some ⟨hy, 0, none⟩), .pointer (some ⟨g, 0, none⟩)] w fun e w' => e = .returned (.tuple #[]) ∧ (∃ v', GR.Blk w' g 44 #[v'] ∧ GR.Own difK w' B v' (acc ++ [⟨key, em, y.sum⟩])) ∧ Below B w w' := by
  obtain ⟨i0, hi0, hz0, hz1, hz2⟩ := info_parts dif_info
  have c0 : w.cell? ⟨g, 0, none⟩ = some v := bg.cell 0
  have f0 := bg.frozen 0
  have lg := bg.lt
  have ng : g ≠ w.heap.size := Nat.ne_of_lt lg
  have y1 : w.cell? ⟨hy, 1, none⟩ = some (.string y.sum) := by_.cell 1
  have ly := by_.lt
  have ny : hy ≠ w.heap.size := Nat.ne_of_lt ly
  have q1 : y.sum.toList.isEmpty = false := empty_no (fun h => hq (by rw [h]))
  have BG := Lib.hid bg
  have HO := Lib.hid ho
  have hBw : B ≤ w.heap.size := Nat.le_trans hB (Nat.le_of_lt lg)
  clear bg ho hq
  go_enter Try.func61, Try.ntmps61
  go_wp2_with (at_builtin; refine GR.app_all (K := difK) rfl (.tmp 29) (.tmp 31) _ rfl Try.underlying44 hi0 hz0 hz1 hz2 rfl B _ acc rfl ((HO.out.alloc _).alloc _) _ 1 1 [⟨key, em, y.sum⟩] rfl rfl (GR.rd_new _ (by simp) (by show 48 ≤ 140737488355328; omega)) (by show (acc.length + 1) * 48 ≤ _; exact hsz) (by simp; omega) ?_; intro v3 w3 ho_ hg_ hat_; obtain ⟨A3, n3, c3, rfl⟩ := own_slice ho_ (by rw [List.length_append]; exact hsz); have B3 := Lib.hid (((BG.out.alloc _).alloc _).grown hg_ (Ne.symm (GR.own_blk_ne HO.out BG.out (by decide)))); have HO3 := Lib.hid ho_; have HB3 := Lib.hid ((((Below.refl B w).alloc hBw _).alloc (by simp; omega) _).grown hg_ (by simp; omega) (fun b hb => (HO.out.lt b hb).1)); clear ho_ hg_ hat_; have d0 : w3.cell? ⟨g, 0, none⟩ = some _ := B3.out.cell 0; have d1 := B3.out.frozen 0)
  go_end0
  exact ⟨rfl, ⟨_, B3.out.set_ 0 _, own_far HO3.out B3.out _⟩, HB3.out.setCell hB _⟩

set_option maxRecDepth 100000 in
set_option maxHeartbeats 3200000 in
theorem each_both (B g : Nat) (key : ByteArray) (v : Value) (acc : List Dif) (w : World) (hx : Nat) (x : Ent) (bx : GR.Blk w hx 53 #[.string x.key, .string x.sum]) (hy : Nat) (y : Ent) (by_ : GR.Blk w hy 53 #[.string y.key, .string y.sum]) (hq : x.sum ≠ y.sum)
    (hB : B ≤ g) (bg : GR.Blk w g 44 #[v]) (ho : GR.Own difK w B v acc) (hsz : (acc.length + 1) * 48 ≤ 140737488355328) :
    Calls Try.prog 61 #[.string key, .pointer (some ⟨hx, 0, none⟩), .pointer (some ⟨hy, 0, none⟩), .pointer (some ⟨g, 0, none⟩)] w fun e w' => e = .returned (.tuple #[]) ∧ (∃ v', GR.Blk w' g 44 #[v'] ∧ GR.Own difK w' B v' (acc ++ [⟨key, x.sum, y.sum⟩])) ∧ Below B w w' := by
  obtain ⟨i0, hi0, hz0, hz1, hz2⟩ := info_parts dif_info
  have c0 : w.cell? ⟨g, 0, none⟩ = some v := bg.cell 0
  have f0 := bg.frozen 0
  have lg := bg.lt
  have ng : g ≠ w.heap.size := Nat.ne_of_lt lg
  have x1 : w.cell? ⟨hx, 1, none⟩ = some (.string x.sum) := bx.cell 1
  have lx := bx.lt
  have nx : hx ≠ w.heap.size := Nat.ne_of_lt lx
  have y1 : w.cell? ⟨hy, 1, none⟩ = some (.string y.sum) := by_.cell 1
  have ly := by_.lt
  have ny : hy ≠ w.heap.size := Nat.ne_of_lt ly
  have q1 : (x.sum.toList == y.sum.toList) = false := by rw [str_eq]; simpa using hq
  have BG := Lib.hid bg
  have HO := Lib.hid ho
  have hBw : B ≤ w.heap.size := Nat.le_trans hB (Nat.le_of_lt lg)
  clear bg ho hq
  go_enter Try.func61, Try.ntmps61
  go_wp2_with (at_builtin; refine GR.app_all (K := difK) rfl (.tmp 29) (.tmp 31) _ rfl Try.underlying44 hi0 hz0 hz1 hz2 rfl B _ acc rfl ((HO.out.alloc _).alloc _) _ 1 1 [⟨key, x.sum, y.sum⟩] rfl rfl (GR.rd_new _ (by simp) (by show 48 ≤ 140737488355328; omega)) (by show (acc.length + 1) * 48 ≤ _; exact hsz) (by simp; omega) ?_; intro v3 w3 ho_ hg_ hat_; obtain ⟨A3, n3, c3, rfl⟩ := own_slice ho_ (by rw [List.length_append]; exact hsz); have B3 := Lib.hid (((BG.out.alloc _).alloc _).grown hg_ (Ne.symm (GR.own_blk_ne HO.out BG.out (by decide)))); have HO3 := Lib.hid ho_; have HB3 := Lib.hid ((((Below.refl B w).alloc hBw _).alloc (by simp; omega) _).grown hg_ (by simp; omega) (fun b hb => (HO.out.lt b hb).1)); clear ho_ hg_ hat_; have d0 : w3.cell? ⟨g, 0, none⟩ = some _ := B3.out.cell 0; have d1 := B3.out.frozen 0)
  go_end0
  exact ⟨rfl, ⟨_, B3.out.set_ 0 _, own_far HO3.out B3.out _⟩, HB3.out.setCell hB _⟩

set_option maxRecDepth 100000 in
set_option maxHeartbeats 3200000 in
theorem each_same (B g : Nat) (key : ByteArray) (v : Value) (acc : List Dif) (w : World) (hx : Nat) (x : Ent) (bx : GR.Blk w hx 53 #[.string x.key, .string x.sum]) (hy : Nat) (y : Ent) (by_ : GR.Blk w hy 53 #[.string y.key, .string y.sum]) (hq : x.sum = y.sum)
    (hB : B ≤ g) (bg : GR.Blk w g 44 #[v]) (ho : GR.Own difK w B v acc) (_hsz : (acc.length + 1) * 48 ≤ 140737488355328) :
    Calls Try.prog 61 #[.string key, .pointer (some ⟨hx, 0, none⟩), .pointer (some ⟨hy, 0, none⟩), .pointer (some ⟨g, 0, none⟩)] w fun e w' => e = .returned (.tuple #[]) ∧ (∃ v', GR.Blk w' g 44 #[v'] ∧ GR.Own difK w' B v' (acc)) ∧ Below B w w' := by
  obtain ⟨i0, hi0, hz0, hz1, hz2⟩ := info_parts dif_info
  have c0 : w.cell? ⟨g, 0, none⟩ = some v := bg.cell 0
  have f0 := bg.frozen 0
  have lg := bg.lt
  have ng : g ≠ w.heap.size := Nat.ne_of_lt lg
  have x1 : w.cell? ⟨hx, 1, none⟩ = some (.string x.sum) := bx.cell 1
  have lx := bx.lt
  have nx : hx ≠ w.heap.size := Nat.ne_of_lt lx
  have y1 : w.cell? ⟨hy, 1, none⟩ = some (.string y.sum) := by_.cell 1
  have ly := by_.lt
  have ny : hy ≠ w.heap.size := Nat.ne_of_lt ly
  have q1 : (x.sum.toList == y.sum.toList) = true := by rw [str_eq]; simpa using hq
  have BG := Lib.hid bg
  have HO := Lib.hid ho
  have hBw : B ≤ w.heap.size := Nat.le_trans hB (Nat.le_of_lt lg)
  clear bg ho hq
  go_enter Try.func61, Try.ntmps61
  go_wp2
  go_end0
  exact ⟨rfl, ⟨v, BG.out.alloc _, HO.out.alloc _⟩, (Below.refl B w).alloc hBw _⟩
end Go.Proofs.Ytejodabmddcanaa
