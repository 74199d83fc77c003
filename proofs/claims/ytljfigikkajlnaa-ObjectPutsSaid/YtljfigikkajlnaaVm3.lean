/- DERIVED. Words for the lists of entries of chapter 14: what a slice of entries reads as, and rows of the call's own. What a key may be; which entries are a list (both texts of chapters 13 and 14). Dots in memory; how numbers and dots compare. -/
import Derived.Test.YtljfigikkajlnaaVDvPlain
import Derived.Test.YtljfigikkajlnaaVGRow
import Derived.Test.YtljfigikkajlnaaProg
import Derived.Below
import Derived.Deep.Draws
import Derived.Deep.AppendLies
import Derived.Maps.AppendAt
import Derived.OwnWalk
import Derived.Laws.OwnMore
import Derived.Laws.Rows
import Derived.WalkKit
import Derived.KernelRfl
import Derived.Deep.QuietTactic
import Derived.BigQuiet
import Derived.Deep.RegionHeld3
import Derived.WalkLawsBesides
import Derived.WalkSpells
import Derived.Lib.Hide
import Derived.Outline
import Derived.RegionCalls
import Derived.Lib.Bytealg
namespace Go.Proofs.Ytljfigikkajlnaa
open Go.RowKit
set_option linter.unusedVariables false
set_option linter.unusedSimpArgs false
/-- An entry: a key and a sum. -/
structure Ent where
  key : ByteArray
  sum : ByteArray
deriving DecidableEq
def entC (e : Ent) : List Value := [.string e.key, .string e.sum]
def ents (l : List Ent) : List Value := l.flatMap entC
theorem ents_cons (e : Ent) (l : List Ent) : ents (e :: l) = .string e.key :: .string e.sum :: ents l := rfl
theorem ents_append (l m : List Ent) : ents (l ++ m) = ents l ++ ents m := by simp [ents]
theorem ents_length (l : List Ent) : (ents l).length = l.length * 2 := by
  induction l with
  | nil => rfl
  | cons e l ih => rw [ents_cons]; simp [ih]; omega
theorem ents_even (l : List Ent) (i : Nat) (e : Ent) (h : l[i]? = some e) : (ents l)[i * 2]? = some (.string e.key) ∧ (ents l)[i * 2 + 1]? = some (.string e.sum) := by
  induction l generalizing i with
  | nil => simp at h
  | cons x l ih =>
    cases i with
    | zero => simp at h; subst h; simp [ents_cons]
    | succ i =>
      have := ih i (by simpa using h)
      rw [show (i + 1) * 2 = i * 2 + 2 by omega, show i * 2 + 2 + 1 = i * 2 + 1 + 2 by omega, ents_cons]
      simpa using this
/-- A slice at address A reads as the entries l. -/
def Rd (w : World) (A : Option Addr) (l : List Ent) : Prop :=
  l.length ≤ 4398046511104 ∧ (0 < l.length → ∃ ad, A = some ad ∧ ∀ i e, l[i]? = some e → w.cell? (ad.add (i * 2)) = some (.string e.key) ∧ w.cell? ⟨(ad.add (i * 2)).block, (ad.add (i * 2)).off + 1, none⟩ = some (.string e.sum))
theorem Rd.keep {w w' : World} {A : Option Addr} {l : List Ent} (h : Rd w A l) (hk : ∀ p v, w.cell? p = some v → w'.cell? p = some v) : Rd w' A l :=
  ⟨h.1, fun hn => by
    obtain ⟨ad, e, hc⟩ := h.2 hn
    exact ⟨ad, e, fun i x hx => ⟨hk _ _ (hc i x hx).1, hk _ _ (hc i x hx).2⟩⟩⟩
theorem Rd.drewN {w : World} {A : Option Addr} {l : List Ent} (h : Rd w A l) (n : Nat) : Rd (w.drewN n) A l := h
theorem Rd.drew {w : World} {A : Option Addr} {l : List Ent} (h : Rd w A l) : Rd w.drew A l := h
theorem Rd.below {w w' : World} {A : Option Addr} {l : List Ent} (h : Rd w A l) (hb : Below w.heap.size w w') : Rd w' A l :=
  h.keep fun p _ hp => (hb.cell (World.block_lt_of_cell? w p hp)).trans hp
theorem Rd.alloc {w : World} {A : Option Addr} {l : List Ent} (h : Rd w A l) (o : Obj) : Rd (w.alloc o) A l :=
  h.below ((Below.refl _ _).alloc (Nat.le_refl _) o)
theorem Rd.nil (w : World) (A : Option Addr) : Rd w A [] := ⟨by simp, fun h => absurd h (by simp)⟩
theorem Rd.at_ {w : World} {A : Option Addr} {l : List Ent} (h : Rd w A l) (i : Nat) (hi : i < l.length) :
    ∃ ad, A = some ad ∧ w.cell? (ad.add (i * 2)) = some (.string l[i].key) ∧ w.cell? ⟨(ad.add (i * 2)).block, (ad.add (i * 2)).off + 1, none⟩ = some (.string l[i].sum) := by
  obtain ⟨ad, e, hc⟩ := h.2 (by omega)
  exact ⟨ad, e, hc i _ (List.getElem?_eq_getElem hi)⟩
/-- The world is the old one, some orders having been drawn. -/
def Drawn (w w' : World) : Prop := ∃ n, w' = w.drewN n
theorem Drawn.refl (w : World) : Drawn w w := ⟨0, rfl⟩
theorem Drawn.drewN {w w' : World} (h : Drawn w w') (n : Nat) : Drawn w (w'.drewN n) := by
  obtain ⟨m, rfl⟩ := h
  exact ⟨m + n, World.drewN_drewN ..⟩
theorem Drawn.drew {w w' : World} (h : Drawn w w') : Drawn w w'.drew := h.drewN 1
theorem Drawn.trans {a b c : World} (h : Drawn a b) (k : Drawn b c) : Drawn a c := by
  obtain ⟨m, rfl⟩ := k
  exact h.drewN m
theorem Drawn.rd {w w' : World} (h : Drawn w w') {A : Option Addr} {l : List Ent} (hr : Rd w A l) : Rd w' A l := by
  obtain ⟨m, rfl⟩ := h
  exact hr.drewN m
theorem Drawn.below {w w' : World} (h : Drawn w w') (B : Nat) : Below B w w' := by
  obtain ⟨m, rfl⟩ := h
  exact ⟨rfl, rfl, rfl, Nat.le_refl _, fun _ _ => rfl⟩
theorem Drawn.size {w w' : World} (h : Drawn w w') : w'.heap.size = w.heap.size := by
  obtain ⟨m, rfl⟩ := h
  rfl
/-- A quiet call in a region: from a contract that ends 'Drawn w w''. -/
theorem quiet_drawn {P : Program} {f : FuncId} {args : Array Value} {w : World} {n : Nat} {v : Value}
    (h : Calls P f args (w.drewN n) fun e w' => e = .returned v ∧ Drawn (w.drewN n) w') : Calls P f args (w.drewN n) fun e w'' => e = .returned v ∧ ∃ m, w'' = w.drewN m :=
  h.mono fun _ _ ⟨he, m, hm⟩ => ⟨he, n + m, by rw [hm, World.drewN_drewN]⟩
theorem bl_drew {w w1 : World} (h : Below w.heap.size w w1) : Below w.heap.size w w1.drew := ⟨h.os, h.tape, h.output, h.size, h.block⟩
theorem bl_drewN {w w1 : World} (h : Below w.heap.size w w1) (n : Nat) : Below w.heap.size w (w1.drewN n) := ⟨h.os, h.tape, h.output, h.size, h.block⟩
theorem bl_alloc {w w1 : World} (h : Below w.heap.size w w1) (o : Obj) : Below w.heap.size w (w1.alloc o) := h.alloc h.size o
theorem bl_then {w w1 w2 : World} (h : Below w.heap.size w w1) (k : Below w1.heap.size w1 w2) : Below w.heap.size w w2 := h.trans (k.mono h.size)
theorem ret_bool {a b : Bool} (h : a = b) : Ending.returned (.bool a) = .returned (.bool b) := by rw [h]
theorem ret_int {k : IntKind} {a b : Int} (h : a = b) : Ending.returned (.int k a) = .returned (.int k b) := by rw [h]
theorem ret_str {a b : ByteArray} (h : a = b) : Ending.returned (.string a) = .returned (.string b) := by rw [h]
theorem Rd.max {w : World} {A : Option Addr} {l : List Ent} (h : Rd w A l) : l.length ≤ 4398046511104 := h.1
end Go.Proofs.Ytljfigikkajlnaa
namespace Go.Proofs.Ytljfigikkajlnaa
open Go.RowKit
set_option linter.unusedVariables false
set_option linter.unusedSimpArgs false
/-- A key of 1 to 32 bytes. -/
def keyB (s : ByteArray) : Bool := decide (1 ≤ s.size) && decide (s.size ≤ 32)
def keyE (s : ByteArray) : Int := if keyB s then 0 else 130
theorem keyE_pos {s : ByteArray} (h : keyB s = true) : keyE s = 0 := by simp [keyE, h]
theorem keyE_neg {s : ByteArray} (h : keyB s = false) : keyE s = 130 := by simp [keyE, h]
theorem keyB_iff (s : ByteArray) : keyB s = true ↔ 1 ≤ s.size ∧ s.size ≤ 32 := by simp [keyB]
theorem toList_eq (s : ByteArray) : s.toList = s.data.toList := ByteArray.toList_eq s
theorem nonempty_of_size {s : ByteArray} (h : 1 ≤ s.size) : s.data.toList.isEmpty = false := by
  obtain ⟨⟨l⟩⟩ := s
  cases l with
  | nil => exact absurd h (by decide)
  | cons x l => rfl
theorem empty_of_size {s : ByteArray} (h : s.size = 0) : s.data.toList.isEmpty = true := by
  obtain ⟨⟨l⟩⟩ := s
  cases l with
  | nil => rfl
  | cons x l => exact absurd h (by simp [ByteArray.size])
theorem segKey_yes (s : ByteArray) (h : keyB s = true) (w : World) : Calls Try.prog 27 #[.string s] w fun e w' => e = .returned (.int .i64 0) ∧ w = w' := by
  have hk := (keyB_iff _).1 h
  have b1 : s.toList.isEmpty = false := by rw [toList_eq]; exact nonempty_of_size hk.1
  have b2 : decide (32 < (s.size : Int)) = false := by simp; omega
  clear h hk
  go_enter Try.func27, Try.ntmps27
  go_wp2
  go_ret
  exact ⟨rfl, rfl⟩
theorem segKey_no (s : ByteArray) (h : keyB s = false) (w : World) : Calls Try.prog 27 #[.string s] w fun e w' => e = .returned (.int .i64 130) ∧ w = w' := by
  by_cases h0 : s.size = 0
  · have b1 : s.toList.isEmpty = true := by rw [toList_eq]; exact empty_of_size h0
    clear h h0
    go_enter Try.func27, Try.ntmps27
    go_wp2
    all_goals (go_ret; exact ⟨rfl, rfl⟩)
  · have b1 : s.toList.isEmpty = false := by rw [toList_eq]; exact nonempty_of_size (by omega)
    have b2 : decide (32 < (s.size : Int)) = true := by
      simp [keyB] at h; simp; omega
    clear h h0
    go_enter Try.func27, Try.ntmps27
    go_wp2
    all_goals (go_ret; exact ⟨rfl, rfl⟩)
end Go.Proofs.Ytljfigikkajlnaa
namespace Go.Proofs.Ytljfigikkajlnaa
open Go.RowKit
set_option linter.unusedVariables false
set_option linter.unusedSimpArgs false
def dotK : GR.Kind Dot where
  e := 41
  s := 2
  b := 16
  enc := fun d => [.int .u32 d.a, .int .u64 d.n]
  len := fun _ => rfl
  one := fun x u hu => by
    simp only [List.mem_cons, List.not_mem_nil, or_false] at hu
    rcases hu with rfl | rfl <;> rfl
  hs := by omega
  hb := by omega
theorem dot_info : (Try.prog.info? 41).map (fun i => (i.zero, i.size, i.bytes)) = some (some (.agg #[.int .u32 0, .int .u64 0]), 2, 16) := by kernel_rfl
def sibK : GR.Kind Sib where
  e := 67
  s := 4
  b := 40
  enc := fun x => [.int .u32 x.d.a, .int .u64 x.d.n, .bool x.gone, .string x.v]
  len := fun _ => rfl
  one := fun x u hu => by
    simp only [List.mem_cons, List.not_mem_nil, or_false] at hu
    rcases hu with rfl | rfl | rfl | rfl <;> rfl
  hs := by omega
  hb := by omega
theorem sib_info : (Try.prog.info? 67).map (fun i => (i.zero, i.size, i.bytes)) = some (some (.agg #[.int .u32 0, .int .u64 0, .bool false, .string ⟨#[]⟩]), 4, 40) := by kernel_rfl
theorem add_off (ad : Addr) (m k : Nat) (hk : 0 < k) : ad.add (m + k) = ⟨(ad.add m).block, (ad.add m).off + k, none⟩ := by
  unfold Addr.add
  by_cases hm : m = 0
  · subst hm; simp; omega
  · simp [hm, Nat.add_assoc]
/-- A dot in a slice, in the walk's own spelling. -/
theorem dot_at {w : World} {A : Option Addr} {l : List Dot} (h : GR.Rd dotK w A l) (i : Nat) (hi : i < l.length) : ∃ ad, A = some ad ∧ (ad.add (i * 2)).block < w.heap.size ∧ w.cell? (ad.add (i * 2)) = some (.int .u32 l[i].a) ∧
    w.cell? ⟨(ad.add (i * 2)).block, (ad.add (i * 2)).off + 1, none⟩ = some (.int .u64 l[i].n) := by
  obtain ⟨ad, e, hb, hc⟩ := h.at_ i hi
  refine ⟨ad, e, by rw [block_of_add']; exact hb, hc 0 _ rfl, ?_⟩
  rw [← add_off ad (i * 2) 1 (by omega)]; exact hc 1 _ rfl
where block_of_add' {a : Addr} {n : Nat} : (a.add n).block = a.block := GR.block_of_add a n
theorem dot_head {w : World} {A : Option Addr} {l : List Dot} (h : GR.Rd dotK w A l) (hi : 0 < l.length) : ∃ ad, A = some ad ∧ ad.block < w.heap.size ∧ w.cell? ad = some (.int .u32 l[0].a) ∧
    w.cell? ⟨ad.block, ad.off + 1, none⟩ = some (.int .u64 l[0].n) := by
  obtain ⟨ad, e, hb, c0, c1⟩ := dot_at h 0 hi
  rw [show 0 * 2 = 0 from rfl, Addr.add_zero'] at c0 c1 hb
  exact ⟨ad, e, hb, c0, c1⟩
theorem sib_at {w : World} {A : Option Addr} {l : List Sib} (h : GR.Rd sibK w A l) (i : Nat) (hi : i < l.length) : ∃ ad, A = some ad ∧ (ad.add (i * 4)).block < w.heap.size ∧ w.cell? (ad.add (i * 4)) = some (.int .u32 l[i].d.a) ∧
    w.cell? ⟨(ad.add (i * 4)).block, (ad.add (i * 4)).off + 1, none⟩ = some (.int .u64 l[i].d.n) ∧ w.cell? ⟨(ad.add (i * 4)).block, (ad.add (i * 4)).off + 2, none⟩ = some (.bool l[i].gone) ∧
    w.cell? ⟨(ad.add (i * 4)).block, (ad.add (i * 4)).off + 3, none⟩ = some (.string l[i].v) := by
  obtain ⟨ad, e, hb, hc⟩ := h.at_ i hi
  refine ⟨ad, e, by rw [GR.block_of_add]; exact hb, hc 0 _ rfl, ?_, ?_, ?_⟩
  · rw [← add_off ad (i * 4) 1 (by omega)]; exact hc 1 _ rfl
  · rw [← add_off ad (i * 4) 2 (by omega)]; exact hc 2 _ rfl
  · rw [← add_off ad (i * 4) 3 (by omega)]; exact hc 3 _ rfl
def cmpI (x y : Int) : Int := if x < y then -1 else if y < x then 1 else 0
theorem nan32_any (x : Int) (w : World) : Calls Try.prog 130 #[.int .u32 x] w fun e w' => e = .returned (.bool false) ∧ w = w' := by
  go_enter Try.func130, Try.ntmps130
  go_wp2
  go_ret
  exact ⟨by simp, rfl⟩
theorem nan64_any (x : Int) (w : World) : Calls Try.prog 131 #[.int .u64 x] w fun e w' => e = .returned (.bool false) ∧ w = w' := by
  go_enter Try.func131, Try.ntmps131
  go_wp2
  go_ret
  exact ⟨by simp, rfl⟩
set_option maxHeartbeats 800000 in
theorem cmp32_any (x y : Int) (w : World) : Calls Try.prog 114 #[.int .u32 x, .int .u32 y] w fun e w' => e = .returned (.int .i64 (cmpI x y)) ∧ w = w' := by
  have HC : Hid ((x < y → cmpI x y = -1) ∧ (y < x → cmpI x y = 1) ∧ (x = y → cmpI x y = 0)) := Lib.hid (by unfold cmpI; refine ⟨fun h => by rw [if_pos h], fun h => by rw [if_neg (by omega), if_pos h], fun h => by rw [if_neg (by omega), if_neg (by omega)]⟩)
  rcases Int.lt_trichotomy x y with h | h | h
  · have HV := Lib.hid (HC.out.1 h)
    clear HC
    go_enter Try.func114, Try.ntmps114
    go_wp2_with (go_at_call 130; refine (nan32_any _ _).mono ?_; rintro e w' ⟨rfl, rfl⟩)
    go_ret
    exact ⟨ret_int HV.out.symm, rfl⟩
  · have HV := Lib.hid (HC.out.2.2 h)
    subst h
    clear HC
    go_enter Try.func114, Try.ntmps114
    go_wp2_with (go_at_call 130; refine (nan32_any _ _).mono ?_; rintro e w' ⟨rfl, rfl⟩)
    go_ret
    exact ⟨ret_int HV.out.symm, rfl⟩
  · have HV := Lib.hid (HC.out.2.1 h)
    clear HC
    go_enter Try.func114, Try.ntmps114
    go_wp2_with (go_at_call 130; refine (nan32_any _ _).mono ?_; rintro e w' ⟨rfl, rfl⟩)
    go_ret
    exact ⟨ret_int HV.out.symm, rfl⟩
set_option maxHeartbeats 800000 in
theorem cmp64_any (x y : Int) (w : World) : Calls Try.prog 115 #[.int .u64 x, .int .u64 y] w fun e w' => e = .returned (.int .i64 (cmpI x y)) ∧ w = w' := by
  have HC : Hid ((x < y → cmpI x y = -1) ∧ (y < x → cmpI x y = 1) ∧ (x = y → cmpI x y = 0)) := Lib.hid (by unfold cmpI; refine ⟨fun h => by rw [if_pos h], fun h => by rw [if_neg (by omega), if_pos h], fun h => by rw [if_neg (by omega), if_neg (by omega)]⟩)
  rcases Int.lt_trichotomy x y with h | h | h
  · have HV := Lib.hid (HC.out.1 h)
    clear HC
    go_enter Try.func115, Try.ntmps115
    go_wp2_with (go_at_call 131; refine (nan64_any _ _).mono ?_; rintro e w' ⟨rfl, rfl⟩)
    go_ret
    exact ⟨ret_int HV.out.symm, rfl⟩
  · have HV := Lib.hid (HC.out.2.2 h)
    subst h
    clear HC
    go_enter Try.func115, Try.ntmps115
    go_wp2_with (go_at_call 131; refine (nan64_any _ _).mono ?_; rintro e w' ⟨rfl, rfl⟩)
    go_ret
    exact ⟨ret_int HV.out.symm, rfl⟩
  · have HV := Lib.hid (HC.out.2.1 h)
    clear HC
    go_enter Try.func115, Try.ntmps115
    go_wp2_with (go_at_call 131; refine (nan64_any _ _).mono ?_; rintro e w' ⟨rfl, rfl⟩)
    go_ret
    exact ⟨ret_int HV.out.symm, rfl⟩
theorem new_at (w : World) (t : TypeId) (cs : Array Value) {H : Nat} (h : w.heap.size = H) : GR.Blk (w.alloc (.cells cs t)) H t cs := by
  subst h; exact GR.Blk.new w t cs
def orI (x y : Int) : Int := if x = 0 then y else x
/-- cmp.Or of two numbers. -/
theorem or_any (b : Nat) (x y : Int) (w : World) (hb : GR.Blk w b 3 #[.int .i64 x, .int .i64 y]) :
    Calls Try.prog 113 #[.slice (some ⟨b, 0, none⟩) 2 2] w fun e w' => e = .returned (.int .i64 (orI x y)) ∧ w = w' := by
  have hc0 : w.cell? ⟨b, 0, none⟩ = some (.int .i64 x) := hb.cell 0
  have hc1 : w.cell? ⟨b, 1, none⟩ = some (.int .i64 y) := hb.cell 1
  clear hb
  have HI : Hid ((x = 0 → orI x y = y) ∧ (x ≠ 0 → orI x y = x)) := Lib.hid ⟨fun h => by unfold orI; rw [if_pos h], fun h => by unfold orI; rw [if_neg h]⟩
  go_enter Try.func113, Try.ntmps113
  go_wp2
  go_loop [8] (fun i => ∃ k : Nat, k ≤ 2 ∧ i = .int .i64 k ∧ Hid (1 ≤ k → x = 0) ∧ Hid (2 ≤ k → y = 0)) (fun i => 2 - (intOf i).toNat)
  case atStart => exact ⟨0, by omega, rfl, Lib.hid (by omega), Lib.hid (by omega)⟩
  case round =>
    obtain ⟨k, hk, rfl, h1, h2⟩ := hrel
    have hk3 : k = 0 ∨ k = 1 ∨ k = 2 := by omega
    rcases hk3 with rfl | rfl | rfl
    · by_cases hx : x = 0
      · subst hx
        go_wp2
        go_round
        case rel => exact ⟨1, by omega, rfl, Lib.hid (by simp), Lib.hid (by omega)⟩
        case measure => simp [intOf]
      · have b0 : (x != 0) = true := by simpa using hx
        have HR := Lib.hid (HI.out.2 hx)
        clear hx
        go_wp2
        go_ret
        exact ⟨ret_int HR.out.symm, rfl⟩
    · have HX := h1.out (by omega)
      by_cases hy : y = 0
      · have HYY := Lib.hid hy
        have b0 : (y != 0) = false := by simpa using hy
        clear hy HX
        go_wp2
        go_round
        case rel => exact ⟨2, by omega, rfl, Lib.hid (fun _ => h1.out (by omega)), Lib.hid (fun _ => HYY.out)⟩
        case measure => simp [intOf]
      · have b0 : (y != 0) = true := by simpa using hy
        have HR := Lib.hid (HI.out.1 HX)
        clear hy HX
        go_wp2
        go_ret
        exact ⟨ret_int HR.out.symm, rfl⟩
    · have HX := h1.out (by omega)
      have HY := h2.out (by omega)
      have HR := Lib.hid ((HI.out.1 HX).trans HY)
      clear HX HY
      go_wp2
      go_ret
      exact ⟨ret_int HR.out.symm, rfl⟩
theorem cmpD_eq (x y : Dot) : orI (cmpI x.a y.a) (cmpI x.n y.n) = cmpD x y := by
  unfold orI cmpI cmpD
  rcases ltD_tri x y with ⟨h, hn, h2⟩ | h | ⟨h, hn, h2⟩
  · rw [if_pos h]
    rw [ltD_iff] at h
    rcases h with h | ⟨h, h3⟩
    · simp [h]
    · simp [h, h3]
  · subst h
    rw [ltD_irrefl]
    simp
  · simp only [h2, hn, Bool.false_eq_true, if_false]
    rw [ltD_iff] at h
    rcases h with h | ⟨h, h3⟩
    · have h4 : ¬ x.a < y.a := by omega
      simp [h, h4]
    · have h4 : ¬ x.n < y.n := by omega
      simp [h, h3, h4]
theorem cmpD_lt {x y : Dot} (h : ltD x y = true) : cmpD x y = -1 := by unfold cmpD; rw [if_pos h]
theorem cmpD_self (x : Dot) : cmpD x x = 0 := by unfold cmpD; rw [ltD_irrefl]; simp
theorem cmpD_gt {x y : Dot} (h : ltD y x = true) : cmpD x y = 1 := by
  unfold cmpD
  rcases ltD_tri x y with ⟨_, _, h2⟩ | rfl | ⟨_, hn, h2⟩
  · rw [h] at h2; cases h2
  · rw [ltD_irrefl] at h; cases h
  · simp [h2, hn]
set_option maxRecDepth 100000 in
set_option maxHeartbeats 3200000 in
theorem order_any (x y : Dot) (w : World) : Calls Try.prog 75 #[.agg #[.int .u32 x.a, .int .u64 x.n], .agg #[.int .u32 y.a, .int .u64 y.n]] w fun e w' => e = .returned (.int .i64 (cmpD x y)) ∧ Below w.heap.size w w' := by
  have HD := Lib.hid (cmpD_eq x y)
  go_enter Try.func75, Try.ntmps75
  go_wp2
  go_region_held3 (fun w' => w'.cell? ⟨w.heap.size, 0, none⟩ = some (.int .u32 x.a) ∧ w'.cell? ⟨w.heap.size, 1, none⟩ = some (.int .u64 x.n) ∧ w'.cell? ⟨w.heap.size + 1, 0, none⟩ = some (.int .u32 y.a) ∧ w'.cell? ⟨w.heap.size + 1, 1, none⟩ = some (.int .u64 y.n)) (first | go_keep) (first
    | (go_at_call 114; refine (cmp32_any _ _ _).mono ?_; rintro e w2 ⟨rfl, rfl⟩)
    | (go_at_call 115; refine (cmp64_any _ _ _).mono ?_; rintro e w2 ⟨rfl, rfl⟩)
    | (go_at_call 113; refine (or_any _ (cmpI x.a y.a) (cmpI x.n y.n) _ (new_at _ _ _ (by simp)).drew).mono ?_; rintro e w2 ⟨rfl, rfl⟩))
  go_wp2
  go_ret
  exact ⟨ret_int HD.out, (by repeat (first | exact Below.refl _ _ | refine bl_drewN ?_ _ | refine bl_drew ?_ | refine bl_alloc ?_ _))⟩
end Go.Proofs.Ytljfigikkajlnaa
