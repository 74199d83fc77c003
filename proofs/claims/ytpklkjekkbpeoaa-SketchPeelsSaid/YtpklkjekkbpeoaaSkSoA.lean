/- DERIVED. The library's sort over numbers of 64 bits: a row that holds an array; less; swaps; the insertion sort. The library's insertion sort over numbers of 64 bits. The library's heap sort over numbers of 64 bits. The library's heap sort over numbers of 64 bits; a range reversed. The library's sort: a range reversed; patterns broken: places permuted among themselves. The library's sort: a pivot is chosen. The library's sort: patterns broken. (Several texts in one: SkSrt, SkIns, SkSift, SkHeap, SkRev, SkPiv, SkBrk.) -/
import Derived.Test.YtpklkjekkbpeoaaSkSort
import Derived.Test.YtpklkjekkbpeoaaOver
import Derived.Sort.AssemblyPlain
namespace Go.Proofs.Ytpklkjekkbpeoaa
open Go.RowKit
set_option linter.unusedVariables false
set_option linter.unusedSimpArgs false
attribute [local irreducible] mixN

def ltI (x y : It) : Bool := decide (x.toNat < y.toNat)
theorem ltI_swo : Sort.SWO ltI where
  irrefl := fun x => by simp [ltI]
  trans := fun x y z h1 h2 => by simp only [ltI, decide_eq_true_eq] at *; omega
  ntrans := fun x y z h1 h2 => by simp only [ltI, decide_eq_false_iff_not] at *; omega
/-- The row c holds the array d. -/
structure Arr (w : World) (B c cap : Nat) (d : Array It) : Prop where
  o : GR.Own itK w B (.slice (some ⟨c, 0, none⟩) d.size cap) d.toList
  s : d.size ≤ 256
theorem Arr.at_ {w : World} {B c cap : Nat} {d : Array It} (h : Arr w B c cap d) (i : Nat) (hi : i < d.size) : w.cell? ⟨c, i, none⟩ = some (.int .u64 (d[i]!.toNat : Int)) ∧ w.frozen? ⟨c, i, none⟩ = false := by
  have hc := h.o.cells i (by simpa using hi) 0 _ rfl
  have e : d[i]! = d.toList[i]'(by simpa using hi) := by rw [getElem!_pos d i hi]; simp
  rw [e]
  have h1 : i * itK.s + 0 = i := by show i * 1 + 0 = i; omega
  rw [h1] at hc
  exact hc
theorem Arr.below {w w' : World} {B c cap : Nat} {d : Array It} (h : Arr w B c cap d) (hb : Below w.heap.size w w') : Arr w' B c cap d := ⟨h.o.below hb, h.s⟩
theorem Arr.drew {w : World} {B c cap : Nat} {d : Array It} (h : Arr w B c cap d) : Arr w.drew B c cap d := ⟨h.o.drew, h.s⟩
theorem Arr.lt {w : World} {B c cap : Nat} {d : Array It} (h : Arr w B c cap d) : B ≤ c ∧ c < w.heap.size := h.o.lt c (by simp [Value.ownBlock])
theorem its_set (l : List It) (i : Nat) (x : It) : GR.cs itK (l.set i x) = (GR.cs itK l).set i (.int .u64 (x.toNat : Int)) := by
  have hc : ∀ (y : It) l, GR.cs itK (y :: l) = .int .u64 (y.toNat : Int) :: GR.cs itK l := fun _ _ => rfl
  induction l generalizing i with
  | nil => rfl
  | cons y l ih =>
    cases i with
    | zero => simp [hc]
    | succ i => rw [List.set_cons_succ, hc, hc, ih i]; simp
theorem Arr.put {w : World} {B c cap : Nat} {d : Array It} (h : Arr w B c cap d) (i : Nat) (x : It) : Arr (w.setCell ⟨c, i, none⟩ (.int .u64 (x.toNat : Int))) B c cap (d.setIfInBounds i x) := by
  refine ⟨?_, by simpa using h.s⟩
  have hh : w.ownsRow B itK.e itK.s (.slice (some ⟨c, 0, none⟩) d.size cap) d.toList.length (GR.cs itK d.toList) := h.o
  have := (World.ownsRow.stored hh i (.int .u64 (x.toNat : Int))).1
  unfold GR.Own
  rw [Array.toList_setIfInBounds, List.length_set, its_set, Array.size_setIfInBounds]
  exact this
/-- Two places swapped, in either order of the stores. -/
theorem Arr.swp {w : World} {B c cap : Nat} {d : Array It} (h : Arr w B c cap d) (i j : Nat) : Arr ((w.setCell ⟨c, i, none⟩ (.int .u64 (d[j]!.toNat : Int))).setCell ⟨c, j, none⟩ (.int .u64 (d[i]!.toNat : Int))) B c cap (Sort.swp d i j) :=
  (h.put i d[j]!).put j d[i]!
theorem swp_comm {d : Array It} {i j : Nat} (hij : i ≠ j) : (d.setIfInBounds j d[i]!).setIfInBounds i d[j]! = Sort.swp d i j := by
  unfold Sort.swp
  apply Array.ext_getElem?
  intro k
  simp only [Array.getElem?_setIfInBounds, Array.size_setIfInBounds]
  by_cases h1 : i = k <;> by_cases h2 : j = k <;> simp [h1, h2] <;> omega
theorem Arr.swp' {w : World} {B c cap : Nat} {d : Array It} (h : Arr w B c cap d) (i j : Nat) (hij : i ≠ j) : Arr ((w.setCell ⟨c, j, none⟩ (.int .u64 (d[i]!.toNat : Int))).setCell ⟨c, i, none⟩ (.int .u64 (d[j]!.toNat : Int))) B c cap (Sort.swp d i j) := by
  have := (h.put j d[i]!).put i d[j]!
  rwa [swp_comm hij] at this
theorem grown_set2 (w : World) (c i j : Nat) (x y : Value) : w.grownBy ((w.setCell ⟨c, i, none⟩ x).setCell ⟨c, j, none⟩ y) (some c) := by
  refine ⟨rfl, rfl, rfl, by simp [World.setCell], fun m hm hne => ?_⟩
  have : c ≠ m := fun e => hne (by rw [e])
  rw [Below.heap_setCell _ _ _ _ (fun e => this e.symm), Below.heap_setCell _ _ _ _ (fun e => this e.symm)]
theorem gr_then {w w1 w2 : World} {c : Nat} (h : w.grownBy w1 (some c)) (k : w1.grownBy w2 (some c)) : w.grownBy w2 (some c) := GR.grown_step h k (.inl rfl)
theorem gr_bl {w w1 w2 : World} {c : Nat} (h : w.grownBy w1 (some c)) (k : Below w1.heap.size w1 w2) : w.grownBy w2 (some c) := gr_then h (GR.grown_of_bl k _)
theorem isNaN_any (x : Int) (w : World) : Calls Try.prog 96 #[.int .u64 x] w fun e w' => e = .returned (.bool false) ∧ w = w' := by
  go_enter Try.func96, Try.ntmps96
  go_wp2
  go_ret
  exact ⟨by simp, rfl⟩
theorem less_any (x y : It) (w : World) : Calls Try.prog 84 #[.int .u64 (x.toNat : Int), .int .u64 (y.toNat : Int)] w fun e w' => e = .returned (.bool (ltI x y)) ∧ w = w' := by
  have h : ltI x y = decide ((x.toNat : Int) < (y.toNat : Int)) := by unfold ltI; rw [decide_eq_decide]; omega
  rw [h]
  clear h
  generalize (x.toNat : Int) = p
  generalize (y.toNat : Int) = q
  go_enter Try.func84, Try.ntmps84
  go_wp2_with (go_at_call 96; refine (isNaN_any _ _).mono ?_; rintro e w' ⟨rfl, rfl⟩)
  go_ret
  exact ⟨rfl, rfl⟩
end Go.Proofs.Ytpklkjekkbpeoaa

namespace Go.Proofs.Ytpklkjekkbpeoaa
open Go.RowKit
set_option linter.unusedVariables false
set_option linter.unusedSimpArgs false
attribute [local irreducible] mixN

theorem size_ins (a : Nat) : ∀ (j : Nat) (d : Array It), (Sort.insInner ltI a j d).size = d.size
  | 0, d => rfl
  | j + 1, d => by
    unfold Sort.insInner
    split
    · rw [size_ins a j, Sort.size_swp]
    · rfl
theorem ins_stop {a m : Nat} {d : Array It} (h : ¬ a < m ∨ ∃ q, q + 1 = m ∧ ltI d[m]! d[q]! = false) : Sort.insInner ltI a m d = d := by
  cases m with
  | zero => rfl
  | succ m =>
    unfold Sort.insInner
    rcases h with h | ⟨q, hq, h⟩
    · rw [if_neg]; simp; omega
    · obtain rfl : q = m := by omega
      rw [h]; simp
theorem ins_go {a m q : Nat} {d : Array It} (h : a < m) (hq : q + 1 = m) (hl : ltI d[m]! d[q]! = true) : Sort.insInner ltI a q (Sort.swp d m q) = Sort.insInner ltI a m d := by
  subst hq
  conv => rhs; unfold Sort.insInner
  rw [hl, if_pos]
  simp; omega
theorem out_go {a b k : Nat} {d d2 : Array It} (h : k < b) (e : d2 = Sort.insInner ltI a k d) : Sort.insOuter ltI a b (k + 1) d2 = Sort.insOuter ltI a b k d := by
  conv => rhs; unfold Sort.insOuter
  rw [if_pos h, e]
theorem out_stop {a b k : Nat} {d : Array It} (h : ¬ k < b) : Sort.insOuter ltI a b k d = d := by
  unfold Sort.insOuter
  rw [if_neg h]
set_option maxRecDepth 100000 in
set_option maxHeartbeats 25600000 in
theorem insertion_any (B c cap a b : Nat) (d : Array It) (hab : a ≤ b) (hb : b ≤ d.size) (w : World) (h : Arr w B c cap d) :
    Calls Try.prog 78 #[.slice (some ⟨c, 0, none⟩) d.size cap, .int .i64 (a : Int), .int .i64 (b : Int)] w fun e w' => e = .returned (.tuple #[]) ∧ Arr w' B c cap (Sort.insertionSort ltI d a b) ∧ (Sort.insertionSort ltI d a b).size = d.size ∧ w.grownBy w' (some c) := by
  have hs := h.s
  have H := Lib.hid h
  clear h
  obtain ⟨n, hn⟩ : ∃ n, n = d.size := ⟨_, rfl⟩
  rw [← hn] at hb hs ⊢
  have HN := Lib.hid hn
  clear hn
  have e0 : wrap64 ((a : Int) + 1) = ((a + 1 : Nat) : Int) := by unfold wrap64; omega
  go_enter Try.func78, Try.ntmps78
  go_wp2_with fail
  go_loopw [6] (fun i w' => ∃ (k : Nat) (d' : Array It), a + 1 ≤ k ∧ (k ≤ b ∨ k = a + 1) ∧ i = .int .i64 (k : Int) ∧ Hid (Arr w' B c cap d') ∧ Hid (d'.size = n) ∧ Hid (Sort.insOuter ltI a b k d' = Sort.insertionSort ltI d a b) ∧ Hid (w.grownBy w' (some c))) (fun i _ => b + 1 - (intOf i).toNat)
  case atStart => exact ⟨a + 1, d, Nat.le_refl _, .inr rfl, by first | rfl | rw [e0], H, Lib.hid HN.out.symm, Lib.hid rfl, Lib.hid (GR.grown_of_bl (Below.refl _ _) _)⟩
  case round =>
    obtain ⟨W0, hw_⟩ : ∃ x : World, x = wr := ⟨_, rfl⟩
    subst hw_
    obtain ⟨k, d', hk1, hk2, rfl, hh, hsz, heq, gg⟩ := hrel
    by_cases hlt : k < b
    · have i1 : (k : Int) < (b : Int) := by omega
      go_wp2_with fail
      go_loopw [7] (fun i w' => ∃ (m : Nat) (d2 : Array It), a ≤ m ∧ m ≤ k ∧ i = .int .i64 (m : Int) ∧ Hid (Arr w' B c cap d2) ∧ Hid (d2.size = n) ∧ Hid (Sort.insInner ltI a m d2 = Sort.insInner ltI a k d') ∧ Hid (w.grownBy w' (some c))) (fun i _ => (intOf i).toNat)
      case atStart => exact ⟨k, d', by omega, Nat.le_refl _, rfl, hh, hsz, Lib.hid rfl, gg⟩
      case round =>
        obtain ⟨W1, hw_⟩ : ∃ x : World, x = wr := ⟨_, rfl⟩
        subst hw_
        obtain ⟨m, d2, hm1, hm2, rfl, h2, hsz2, heq2, gg2⟩ := hrel
        by_cases hma : a < m
        · obtain ⟨q, hq⟩ : ∃ q, q + 1 = m := ⟨m - 1, by omega⟩
          have j1 : (a : Int) < (m : Int) := by omega
          have j2 : decide ((a : Int) < (m : Int)) = true := decide_eq_true j1
          have j3 : wrap64 ((m : Int) - 1) = (q : Int) := by unfold wrap64; omega
          have j4 : (m : Int) - 1 = (q : Int) := by omega
          have q0 : (0 : Int) ≤ (m : Int) := by omega
          have q1 : (m : Int) < (n : Int) := by omega
          have q2 : (0 : Int) ≤ (q : Int) := by omega
          have q3 : (q : Int) < (n : Int) := by omega
          obtain ⟨a0, f0⟩ := h2.out.at_ m (by rw [hsz2.out]; omega)
          obtain ⟨a1, f1⟩ := h2.out.at_ q (by rw [hsz2.out]; omega)
          have HQ := Lib.hid hq
          clear hq
          obtain ⟨x, hx⟩ : ∃ x, x = d2[m]! := ⟨_, rfl⟩
          obtain ⟨y, hy⟩ : ∃ y, y = d2[q]! := ⟨_, rfl⟩
          rw [← hx] at a0
          rw [← hy] at a1
          have HX := Lib.hid hx
          have HY := Lib.hid hy
          clear hx hy
          have v0 := over_cell a0
          have v1 := over_cell a1
          rcases hl : ltI x y with _ | _
          · have hless := less_any x y
            rw [hl] at hless
            have HLT := Lib.hid hl
            clear hl
            go_upto_region 4 with fail
            refine over_region (W := W1) (by kernel_rfl) (by kernel_rfl) (by repeat (first | exact Below.refl _ _ | refine bl_drewN ?_ _ | refine bl_drew ?_ | refine bl_alloc ?_ _)) ?_
            repeat (go_big_quiet_step (exact over_same (hless _)))
            refine wpQuiet_nil ?_
            intro _ hx_
            obtain ⟨x_, hx_⟩ := hx_
            subst hx_
            obtain ⟨w3, hb3⟩ := x_
            dsimp only
            have gg3 := Lib.hid (gr_bl gg2.out hb3)
            have h3 := Lib.hid (h2.out.below hb3)
            clear hb3 v0 v1 a0 a1 f0 f1 hless
            go_wp2
            go_roundw
            case rel => exact ⟨k + 1, d2, by omega, by omega, by go_num, h3, hsz2, Lib.hid ((out_go hlt ((ins_stop (.inr ⟨q, HQ.out, by rw [← HX.out, ← HY.out]; exact HLT.out⟩)).symm.trans heq2.out)).trans heq.out), gg3⟩
            case measure => simp [intOf]; omega
          · have hless := less_any x y
            rw [hl] at hless
            have HLT := Lib.hid hl
            clear hl
            go_upto_region 4 with fail
            refine over_region (W := W1) (by kernel_rfl) (by kernel_rfl) (by repeat (first | exact Below.refl _ _ | refine bl_drewN ?_ _ | refine bl_drew ?_ | refine bl_alloc ?_ _)) ?_
            repeat (go_big_quiet_step (exact over_same (hless _)))
            refine wpQuiet_nil ?_
            intro _ hx_
            obtain ⟨x_, hx_⟩ := hx_
            subst hx_
            obtain ⟨w3, hb3⟩ := x_
            dsimp only
            have gg3 := Lib.hid (gr_bl gg2.out hb3)
            have h3 := Lib.hid (h2.out.below hb3)
            obtain ⟨b0, f0⟩ := h3.out.at_ m (by rw [hsz2.out]; omega)
            obtain ⟨b1, f1⟩ := h3.out.at_ q (by rw [hsz2.out]; omega)
            rw [← HX.out] at b0
            rw [← HY.out] at b1
            have hmq : m ≠ q := by have := HQ.out; omega
            have hqm : q ≠ m := by have := HQ.out; omega
            clear hb3 v0 v1 a0 a1 hless
            go_upto_region 6 with fail
            go_region
            have hsw := h3.out.swp m q
            rw [← HX.out, ← HY.out] at hsw
            have H4 := Lib.hid hsw.drew
            have gg4 := Lib.hid (gr_then gg3.out (gr_drew (grown_set2 w3 c m q (.int .u64 (y.toNat : Int)) (.int .u64 (x.toNat : Int)))))
            clear hsw b0 b1 f0 f1
            go_wp2
            go_roundw
            case rel => exact ⟨q, Sort.swp d2 m q, by have := HQ.out; omega, by have := HQ.out; omega, by go_num, H4, Lib.hid (by rw [Sort.size_swp]; exact hsz2.out), Lib.hid ((ins_go hma HQ.out (by rw [← HX.out, ← HY.out]; exact HLT.out)).trans heq2.out), gg4⟩
            case measure => simp [intOf]; omega
        · have j2 : decide ((a : Int) < (m : Int)) = false := decide_eq_false (by omega)
          go_upto_region 4 with fail
          refine over_region (W := W1) (by kernel_rfl) (by kernel_rfl) (by repeat (first | exact Below.refl _ _ | refine bl_drewN ?_ _ | refine bl_drew ?_ | refine bl_alloc ?_ _)) ?_
          repeat (go_big_quiet_step (fail))
          refine wpQuiet_nil ?_
          intro _ hx_
          obtain ⟨x_, hx_⟩ := hx_
          subst hx_
          obtain ⟨w3, hb3⟩ := x_
          dsimp only
          have gg3 := Lib.hid (gr_bl gg2.out hb3)
          have h3 := Lib.hid (h2.out.below hb3)
          clear hb3
          go_wp2
          go_roundw
          case rel => exact ⟨k + 1, d2, by omega, by omega, by go_num, h3, hsz2, Lib.hid ((out_go hlt ((ins_stop (.inl hma)).symm.trans heq2.out)).trans heq.out), gg3⟩
          case measure => simp [intOf]; omega
    · have j1 : ¬ (k : Int) < (b : Int) := by omega
      go_wp2
      go_end0
      have he : Sort.insertionSort ltI d a b = d' := heq.out.symm.trans (out_stop hlt)
      rw [he]
      exact ⟨rfl, hh.out, hsz.out, gg.out⟩
end Go.Proofs.Ytpklkjekkbpeoaa

namespace Go.Proofs.Ytpklkjekkbpeoaa
open Go.RowKit
set_option linter.unusedVariables false
set_option linter.unusedSimpArgs false
attribute [local irreducible] mixN

def chOf (hi first r : Nat) (d : Array It) : Nat := if 2 * r + 1 + 1 < hi && ltI d[first + (2 * r + 1)]! d[first + (2 * r + 1) + 1]! then 2 * r + 2 else 2 * r + 1
theorem sd_eq (hi first r : Nat) (d : Array It) : Sort.siftDown ltI hi first r d = if 2 * r + 1 ≥ hi then d else if !ltI d[first + r]! d[first + chOf hi first r d]! then d else Sort.siftDown ltI hi first (chOf hi first r d) (Sort.swp d (first + r) (first + chOf hi first r d)) := by
  conv => lhs; unfold Sort.siftDown
  by_cases h : 2 * r + 1 ≥ hi
  · rw [dif_pos h, if_pos h]
  · rw [dif_neg h, if_neg h]
    rcases hc : (decide (2 * r + 1 + 1 < hi) && ltI d[first + (2 * r + 1)]! d[first + (2 * r + 1) + 1]!) with _ | _
    · have e : chOf hi first r d = 2 * r + 1 := by unfold chOf; rw [hc]; rfl
      rw [e]
      simp only [Bool.false_eq_true, if_false]
    · have e : chOf hi first r d = 2 * r + 2 := by unfold chOf; rw [hc]; rfl
      have h2 : 2 * r + 2 < hi := by simp only [Bool.and_eq_true, decide_eq_true_eq] at hc; omega
      rw [e]
      simp only [if_true, dif_pos h2]
theorem sd_stop {hi first r : Nat} {d : Array It} (h : ¬ 2 * r + 1 < hi) : Sort.siftDown ltI hi first r d = d := by rw [sd_eq, if_pos (by omega)]
theorem sd_here {hi first r C : Nat} {d : Array It} (h : 2 * r + 1 < hi) (hC : C = chOf hi first r d) (hl : ltI d[first + r]! d[first + C]! = false) : Sort.siftDown ltI hi first r d = d := by
  rw [sd_eq, if_neg (by omega), ← hC, hl]; rfl
theorem sd_down {hi first r C : Nat} {d : Array It} (h : 2 * r + 1 < hi) (hC : C = chOf hi first r d) (hl : ltI d[first + r]! d[first + C]! = true) : Sort.siftDown ltI hi first C (Sort.swp d (first + r) (first + C)) = Sort.siftDown ltI hi first r d := by
  conv => rhs; rw [sd_eq, if_neg (by omega), ← hC, hl]
  rfl
set_option maxRecDepth 100000 in
set_option maxHeartbeats 51200000 in
theorem sift_any (B c cap root hi first : Nat) (d : Array It) (hf : first + hi ≤ d.size) (hr : root ≤ 256) (w : World) (h : Arr w B c cap d) :
    Calls Try.prog 91 #[.slice (some ⟨c, 0, none⟩) d.size cap, .int .i64 (root : Int), .int .i64 (hi : Int), .int .i64 (first : Int)] w fun e w' => e = .returned (.tuple #[]) ∧ Arr w' B c cap (Sort.siftDown ltI hi first root d) ∧ (Sort.siftDown ltI hi first root d).size = d.size ∧ w.grownBy w' (some c) := by
  have hs := h.s
  have H := Lib.hid h
  clear h
  obtain ⟨n, hn⟩ : ∃ n, n = d.size := ⟨_, rfl⟩
  rw [← hn] at hf hs ⊢
  have HN := Lib.hid hn
  clear hn
  go_enter Try.func91, Try.ntmps91
  go_wp2_with fail
  go_loopw [8] (fun i w' => ∃ (r : Nat) (d' : Array It), r ≤ 256 ∧ i = .int .i64 (r : Int) ∧ Hid (Arr w' B c cap d') ∧ Hid (d'.size = n) ∧ Hid (Sort.siftDown ltI hi first r d' = Sort.siftDown ltI hi first root d) ∧ Hid (w.grownBy w' (some c))) (fun i _ => hi + 257 - (intOf i).toNat)
  case atStart => exact ⟨root, d, hr, rfl, H, Lib.hid HN.out.symm, Lib.hid rfl, Lib.hid (GR.grown_of_bl (Below.refl _ _) _)⟩
  case round =>
    obtain ⟨W0, hw_⟩ : ∃ x : World, x = wr := ⟨_, rfl⟩
    subst hw_
    obtain ⟨r, d', hr1, rfl, hh, hsz, heq, gg⟩ := hrel
    obtain ⟨ch, hch⟩ : ∃ ch, ch = 2 * r + 1 := ⟨_, rfl⟩
    go_upto_region 2 with fail
    rw [show 2 * (r : Int) + 1 = (ch : Int) from by omega]
    by_cases hlt : ch < hi
    · have k1 : ¬ (hi : Int) ≤ (ch : Int) := by omega
      have k2 : decide ((hi : Int) ≤ (ch : Int)) = false := decide_eq_false k1
      have k5 : ¬ hi ≤ ch := by omega
      have k6 : decide (hi ≤ ch) = false := decide_eq_false k5
      have k7 : (ch : Int) < (hi : Int) := by omega
      obtain ⟨p0, hp0⟩ : ∃ p0, p0 = first + r := ⟨_, rfl⟩
      obtain ⟨p1, hp1⟩ : ∃ p1, p1 = first + ch := ⟨_, rfl⟩
      obtain ⟨c2, hc2⟩ : ∃ c2, c2 = ch + 1 := ⟨_, rfl⟩
      have E2 := Lib.hid (show (ch : Int) + 1 = (c2 : Int) by omega)
      have E3 := Lib.hid (show (first : Int) + (ch : Int) = (p1 : Int) by omega)
      have F1 := Lib.hid (show (first : Int) + (r : Int) = (p0 : Int) by omega)
      by_cases htwo : c2 < hi
      · obtain ⟨p2, hp2⟩ : ∃ p2, p2 = first + c2 := ⟨_, rfl⟩
        have E4 := Lib.hid (show (p1 : Int) + 1 = (p2 : Int) by omega)
        have F2 := Lib.hid (show (first : Int) + (c2 : Int) = (p2 : Int) by omega)
        have k3 : (c2 : Int) < (hi : Int) := by omega
        have k4 : decide ((c2 : Int) < (hi : Int)) = true := decide_eq_true k3
        have q0 : (0 : Int) ≤ (p1 : Int) := by omega
        have q1 : (p1 : Int) < (n : Int) := by omega
        have q2 : (0 : Int) ≤ (p2 : Int) := by omega
        have q3 : (p2 : Int) < (n : Int) := by omega
        obtain ⟨a0, _⟩ := hh.out.at_ p1 (by rw [hsz.out]; omega)
        obtain ⟨a1, _⟩ := hh.out.at_ p2 (by rw [hsz.out]; omega)
        obtain ⟨x, hx⟩ : ∃ x, x = d'[p1]! := ⟨_, rfl⟩
        obtain ⟨y, hy⟩ : ∃ y, y = d'[p2]! := ⟨_, rfl⟩
        rw [← hx] at a0
        rw [← hy] at a1
        have v0 := over_cell a0
        have v1 := over_cell a1
        rcases hl : ltI x y with _ | _
        · have hless := less_any x y
          rw [hl] at hless
          have HCH := Lib.hid (show ch = chOf hi first r d' by unfold chOf; rw [show first + (2 * r + 1) = p1 by omega, show p1 + 1 = p2 by omega, ← hx, ← hy, hl]; simp; omega)
          have HPS := Lib.hid (show p0 = first + r ∧ p1 = first + ch ∧ 2 * r + 1 < hi ∧ r < ch ∧ p0 < n ∧ p1 < n ∧ p0 ≠ p1 from ⟨by omega, by omega, by omega, by omega, by omega, by omega, by omega⟩)
          clear hl hx hy hp0 hp1 hp2 hc2 hch a0 a1
          have e2 := E2.out
          have e3 := E3.out
          have e4 := E4.out
          go_upto_region 3 with fail
          refine over_region (W := W0) (by kernel_rfl) (by kernel_rfl) (by repeat (first | exact Below.refl _ _ | refine bl_drewN ?_ _ | refine bl_drew ?_ | refine bl_alloc ?_ _)) ?_
          repeat (go_big_quiet_step (exact over_same (hless _)))
          refine wpQuiet_nil ?_
          intro _ hx_
          obtain ⟨x_, hx_⟩ := hx_
          subst hx_
          obtain ⟨w3, hb3⟩ := x_
          dsimp only
          clear v0 v1 hless e2 e3 e4
          have gg3 := Lib.hid (gr_bl gg.out hb3)
          have h3 := Lib.hid (hh.out.below hb3)
          have g0 : (0 : Int) ≤ (p0 : Int) := by omega
          have g1 : (p0 : Int) < (n : Int) := by have := HPS.out; omega
          have g2 : (0 : Int) ≤ (p1 : Int) := by omega
          have g3 : (p1 : Int) < (n : Int) := by have := HPS.out; omega
          obtain ⟨b0, t0⟩ := h3.out.at_ p0 (by rw [hsz.out]; have := HPS.out; omega)
          obtain ⟨b1, t1⟩ := h3.out.at_ p1 (by rw [hsz.out]; have := HPS.out; omega)
          obtain ⟨u, hu⟩ : ∃ u, u = d'[p0]! := ⟨_, rfl⟩
          obtain ⟨v, hv⟩ : ∃ v, v = d'[p1]! := ⟨_, rfl⟩
          rw [← hu] at b0
          rw [← hv] at b1
          have HU := Lib.hid hu
          have HV := Lib.hid hv
          have v2 := over_cell b0
          have v3 := over_cell b1
          clear hu hv hb3
          rcases hl2 : ltI u v with _ | _
          · have hless := less_any u v
            rw [hl2] at hless
            have HLT := Lib.hid hl2
            clear hl2
            have f1 := F1.out
            have f2 := E3.out
            have e2 := E2.out
            go_upto_region 5 with fail
            refine over_region (W := w3) (by kernel_rfl) (by kernel_rfl) (by repeat (first | exact Below.refl _ _ | refine bl_drewN ?_ _ | refine bl_drew ?_ | refine bl_alloc ?_ _)) ?_
            repeat (go_big_quiet_step (exact over_same (hless _)))
            refine wpQuiet_nil ?_
            intro _ hx_
            obtain ⟨x_, hx_⟩ := hx_
            subst hx_
            obtain ⟨w4, hb4⟩ := x_
            dsimp only
            have gg4 := Lib.hid (gr_bl gg3.out hb4)
            have h4 := Lib.hid (h3.out.below hb4)
            clear hb4 v2 v3 b0 b1 t0 t1 hless f1 f2 e2
            go_wp2
            first | go_end0 | refine bodyPost_ret (results_none rfl _ _ _) rfl ?_
            have he : Sort.siftDown ltI hi first root d = d' := heq.out.symm.trans (sd_here HPS.out.2.2.1 HCH.out (by rw [← HPS.out.1, ← HPS.out.2.1, ← HU.out, ← HV.out]; exact HLT.out))
            rw [he]
            exact ⟨rfl, h4.out, hsz.out, gg4.out⟩
          · have hless := less_any u v
            rw [hl2] at hless
            have HLT := Lib.hid hl2
            clear hl2
            have f1 := F1.out
            have f2 := E3.out
            have e2 := E2.out
            go_upto_region 5 with fail
            refine over_region (W := w3) (by kernel_rfl) (by kernel_rfl) (by repeat (first | exact Below.refl _ _ | refine bl_drewN ?_ _ | refine bl_drew ?_ | refine bl_alloc ?_ _)) ?_
            repeat (go_big_quiet_step (exact over_same (hless _)))
            refine wpQuiet_nil ?_
            intro _ hx_
            obtain ⟨x_, hx_⟩ := hx_
            subst hx_
            obtain ⟨w4, hb4⟩ := x_
            dsimp only
            have gg4 := Lib.hid (gr_bl gg3.out hb4)
            have h4 := Lib.hid (h3.out.below hb4)
            obtain ⟨b0', t0'⟩ := h4.out.at_ p0 (by rw [hsz.out]; have := HPS.out; omega)
            obtain ⟨b1', t1'⟩ := h4.out.at_ p1 (by rw [hsz.out]; have := HPS.out; omega)
            rw [← HU.out] at b0'
            rw [← HV.out] at b1'
            have ne1 : p0 ≠ p1 := HPS.out.2.2.2.2.2.2
            have ne2 : p1 ≠ p0 := fun e => ne1 e.symm
            clear hb4 v2 v3 b0 b1 t0 t1 hless f1 f2 e2
            have f1 := F1.out
            have f2 := E3.out
            go_upto_region 6 with fail
            go_region
            clear f1 f2
            have hsw := h4.out.swp p0 p1
            rw [← HU.out, ← HV.out] at hsw
            have H5 := Lib.hid hsw.drew
            have gg5 := Lib.hid (gr_then gg4.out (gr_drew (grown_set2 w4 c p0 p1 (.int .u64 (v.toNat : Int)) (.int .u64 (u.toNat : Int)))))
            clear hsw b0' b1' t0' t1'
            go_wp2
            go_roundw
            case rel => exact ⟨ch, Sort.swp d' p0 p1, by have := HPS.out; omega, by first | rfl | go_num, H5, Lib.hid (by rw [Sort.size_swp]; exact hsz.out), Lib.hid ((show Sort.siftDown ltI hi first ch (Sort.swp d' p0 p1) = Sort.siftDown ltI hi first r d' from by rw [HPS.out.1, HPS.out.2.1]; exact sd_down HPS.out.2.2.1 HCH.out (by rw [← HPS.out.1, ← HPS.out.2.1, ← HU.out, ← HV.out]; exact HLT.out)).trans heq.out), gg5⟩
            case measure => (have := HPS.out; simp [intOf]; omega)
        · have hless := less_any x y
          rw [hl] at hless
          have HCH := Lib.hid (show c2 = chOf hi first r d' by unfold chOf; rw [show first + (2 * r + 1) = p1 by omega, show p1 + 1 = p2 by omega, ← hx, ← hy, hl, if_pos (by simp; omega)]; omega)
          have HPS := Lib.hid (show p0 = first + r ∧ p2 = first + c2 ∧ 2 * r + 1 < hi ∧ r < c2 ∧ p0 < n ∧ p2 < n ∧ p0 ≠ p2 from ⟨by omega, by omega, by omega, by omega, by omega, by omega, by omega⟩)
          clear hl hx hy hp0 hp1 hp2 hc2 hch a0 a1
          have e2 := E2.out
          have e3 := E3.out
          have e4 := E4.out
          go_upto_region 3 with fail
          refine over_region (W := W0) (by kernel_rfl) (by kernel_rfl) (by repeat (first | exact Below.refl _ _ | refine bl_drewN ?_ _ | refine bl_drew ?_ | refine bl_alloc ?_ _)) ?_
          repeat (go_big_quiet_step (exact over_same (hless _)))
          refine wpQuiet_nil ?_
          intro _ hx_
          obtain ⟨x_, hx_⟩ := hx_
          subst hx_
          obtain ⟨w3, hb3⟩ := x_
          dsimp only
          clear v0 v1 hless e2 e3 e4
          have gg3 := Lib.hid (gr_bl gg.out hb3)
          have h3 := Lib.hid (hh.out.below hb3)
          have g0 : (0 : Int) ≤ (p0 : Int) := by omega
          have g1 : (p0 : Int) < (n : Int) := by have := HPS.out; omega
          have g2 : (0 : Int) ≤ (p2 : Int) := by omega
          have g3 : (p2 : Int) < (n : Int) := by have := HPS.out; omega
          obtain ⟨b0, t0⟩ := h3.out.at_ p0 (by rw [hsz.out]; have := HPS.out; omega)
          obtain ⟨b1, t1⟩ := h3.out.at_ p2 (by rw [hsz.out]; have := HPS.out; omega)
          obtain ⟨u, hu⟩ : ∃ u, u = d'[p0]! := ⟨_, rfl⟩
          obtain ⟨v, hv⟩ : ∃ v, v = d'[p2]! := ⟨_, rfl⟩
          rw [← hu] at b0
          rw [← hv] at b1
          have HU := Lib.hid hu
          have HV := Lib.hid hv
          have v2 := over_cell b0
          have v3 := over_cell b1
          clear hu hv hb3
          rcases hl2 : ltI u v with _ | _
          · have hless := less_any u v
            rw [hl2] at hless
            have HLT := Lib.hid hl2
            clear hl2
            have f1 := F1.out
            have f2 := F2.out
            have e2 := E2.out
            go_upto_region 5 with fail
            refine over_region (W := w3) (by kernel_rfl) (by kernel_rfl) (by repeat (first | exact Below.refl _ _ | refine bl_drewN ?_ _ | refine bl_drew ?_ | refine bl_alloc ?_ _)) ?_
            repeat (go_big_quiet_step (exact over_same (hless _)))
            refine wpQuiet_nil ?_
            intro _ hx_
            obtain ⟨x_, hx_⟩ := hx_
            subst hx_
            obtain ⟨w4, hb4⟩ := x_
            dsimp only
            have gg4 := Lib.hid (gr_bl gg3.out hb4)
            have h4 := Lib.hid (h3.out.below hb4)
            clear hb4 v2 v3 b0 b1 t0 t1 hless f1 f2 e2
            go_wp2
            first | go_end0 | refine bodyPost_ret (results_none rfl _ _ _) rfl ?_
            have he : Sort.siftDown ltI hi first root d = d' := heq.out.symm.trans (sd_here HPS.out.2.2.1 HCH.out (by rw [← HPS.out.1, ← HPS.out.2.1, ← HU.out, ← HV.out]; exact HLT.out))
            rw [he]
            exact ⟨rfl, h4.out, hsz.out, gg4.out⟩
          · have hless := less_any u v
            rw [hl2] at hless
            have HLT := Lib.hid hl2
            clear hl2
            have f1 := F1.out
            have f2 := F2.out
            have e2 := E2.out
            go_upto_region 5 with fail
            refine over_region (W := w3) (by kernel_rfl) (by kernel_rfl) (by repeat (first | exact Below.refl _ _ | refine bl_drewN ?_ _ | refine bl_drew ?_ | refine bl_alloc ?_ _)) ?_
            repeat (go_big_quiet_step (exact over_same (hless _)))
            refine wpQuiet_nil ?_
            intro _ hx_
            obtain ⟨x_, hx_⟩ := hx_
            subst hx_
            obtain ⟨w4, hb4⟩ := x_
            dsimp only
            have gg4 := Lib.hid (gr_bl gg3.out hb4)
            have h4 := Lib.hid (h3.out.below hb4)
            obtain ⟨b0', t0'⟩ := h4.out.at_ p0 (by rw [hsz.out]; have := HPS.out; omega)
            obtain ⟨b1', t1'⟩ := h4.out.at_ p2 (by rw [hsz.out]; have := HPS.out; omega)
            rw [← HU.out] at b0'
            rw [← HV.out] at b1'
            have ne1 : p0 ≠ p2 := HPS.out.2.2.2.2.2.2
            have ne2 : p2 ≠ p0 := fun e => ne1 e.symm
            clear hb4 v2 v3 b0 b1 t0 t1 hless f1 f2 e2
            have f1 := F1.out
            have f2 := F2.out
            go_upto_region 6 with fail
            go_region
            clear f1 f2
            have hsw := h4.out.swp p0 p2
            rw [← HU.out, ← HV.out] at hsw
            have H5 := Lib.hid hsw.drew
            have gg5 := Lib.hid (gr_then gg4.out (gr_drew (grown_set2 w4 c p0 p2 (.int .u64 (v.toNat : Int)) (.int .u64 (u.toNat : Int)))))
            clear hsw b0' b1' t0' t1'
            go_wp2
            go_roundw
            case rel => exact ⟨c2, Sort.swp d' p0 p2, by have := HPS.out; omega, by first | rfl | go_num, H5, Lib.hid (by rw [Sort.size_swp]; exact hsz.out), Lib.hid ((show Sort.siftDown ltI hi first c2 (Sort.swp d' p0 p2) = Sort.siftDown ltI hi first r d' from by rw [HPS.out.1, HPS.out.2.1]; exact sd_down HPS.out.2.2.1 HCH.out (by rw [← HPS.out.1, ← HPS.out.2.1, ← HU.out, ← HV.out]; exact HLT.out)).trans heq.out), gg5⟩
            case measure => (have := HPS.out; simp [intOf]; omega)
      · have k3 : ¬ (c2 : Int) < (hi : Int) := fun h => htwo (Int.ofNat_lt.1 h)
        have k4 : decide ((c2 : Int) < (hi : Int)) = false := decide_eq_false k3
        have HCH := Lib.hid (show ch = chOf hi first r d' by unfold chOf; rw [if_neg (by simp; omega)]; omega)
        have HPS := Lib.hid (show p0 = first + r ∧ p1 = first + ch ∧ 2 * r + 1 < hi ∧ r < ch ∧ p0 < n ∧ p1 < n ∧ p0 ≠ p1 from ⟨by omega, by omega, by omega, by omega, by omega, by omega, by omega⟩)
        clear hp0 hp1 hc2 hch
        have e2 := E2.out
        have e3 := E3.out
        go_upto_region 3 with fail
        refine over_region (W := W0) (by kernel_rfl) (by kernel_rfl) (by repeat (first | exact Below.refl _ _ | refine bl_drewN ?_ _ | refine bl_drew ?_ | refine bl_alloc ?_ _)) ?_
        repeat (go_big_quiet_step (fail))
        refine wpQuiet_nil ?_
        intro _ hx_
        obtain ⟨x_, hx_⟩ := hx_
        subst hx_
        obtain ⟨w3, hb3⟩ := x_
        dsimp only
        clear e2 e3
        have gg3 := Lib.hid (gr_bl gg.out hb3)
        have h3 := Lib.hid (hh.out.below hb3)
        have g0 : (0 : Int) ≤ (p0 : Int) := by omega
        have g1 : (p0 : Int) < (n : Int) := by have := HPS.out; omega
        have g2 : (0 : Int) ≤ (p1 : Int) := by omega
        have g3 : (p1 : Int) < (n : Int) := by have := HPS.out; omega
        obtain ⟨b0, t0⟩ := h3.out.at_ p0 (by rw [hsz.out]; have := HPS.out; omega)
        obtain ⟨b1, t1⟩ := h3.out.at_ p1 (by rw [hsz.out]; have := HPS.out; omega)
        obtain ⟨u, hu⟩ : ∃ u, u = d'[p0]! := ⟨_, rfl⟩
        obtain ⟨v, hv⟩ : ∃ v, v = d'[p1]! := ⟨_, rfl⟩
        rw [← hu] at b0
        rw [← hv] at b1
        have HU := Lib.hid hu
        have HV := Lib.hid hv
        have v2 := over_cell b0
        have v3 := over_cell b1
        clear hu hv hb3
        rcases hl2 : ltI u v with _ | _
        · have hless := less_any u v
          rw [hl2] at hless
          have HLT := Lib.hid hl2
          clear hl2
          have f1 := F1.out
          have f2 := E3.out
          have e2 := E2.out
          go_upto_region 5 with fail
          refine over_region (W := w3) (by kernel_rfl) (by kernel_rfl) (by repeat (first | exact Below.refl _ _ | refine bl_drewN ?_ _ | refine bl_drew ?_ | refine bl_alloc ?_ _)) ?_
          repeat (go_big_quiet_step (exact over_same (hless _)))
          refine wpQuiet_nil ?_
          intro _ hx_
          obtain ⟨x_, hx_⟩ := hx_
          subst hx_
          obtain ⟨w4, hb4⟩ := x_
          dsimp only
          have gg4 := Lib.hid (gr_bl gg3.out hb4)
          have h4 := Lib.hid (h3.out.below hb4)
          clear hb4 v2 v3 b0 b1 t0 t1 hless f1 f2 e2
          go_wp2
          first | go_end0 | refine bodyPost_ret (results_none rfl _ _ _) rfl ?_
          have he : Sort.siftDown ltI hi first root d = d' := heq.out.symm.trans (sd_here HPS.out.2.2.1 HCH.out (by rw [← HPS.out.1, ← HPS.out.2.1, ← HU.out, ← HV.out]; exact HLT.out))
          rw [he]
          exact ⟨rfl, h4.out, hsz.out, gg4.out⟩
        · have hless := less_any u v
          rw [hl2] at hless
          have HLT := Lib.hid hl2
          clear hl2
          have f1 := F1.out
          have f2 := E3.out
          have e2 := E2.out
          go_upto_region 5 with fail
          refine over_region (W := w3) (by kernel_rfl) (by kernel_rfl) (by repeat (first | exact Below.refl _ _ | refine bl_drewN ?_ _ | refine bl_drew ?_ | refine bl_alloc ?_ _)) ?_
          repeat (go_big_quiet_step (exact over_same (hless _)))
          refine wpQuiet_nil ?_
          intro _ hx_
          obtain ⟨x_, hx_⟩ := hx_
          subst hx_
          obtain ⟨w4, hb4⟩ := x_
          dsimp only
          have gg4 := Lib.hid (gr_bl gg3.out hb4)
          have h4 := Lib.hid (h3.out.below hb4)
          obtain ⟨b0', t0'⟩ := h4.out.at_ p0 (by rw [hsz.out]; have := HPS.out; omega)
          obtain ⟨b1', t1'⟩ := h4.out.at_ p1 (by rw [hsz.out]; have := HPS.out; omega)
          rw [← HU.out] at b0'
          rw [← HV.out] at b1'
          have ne1 : p0 ≠ p1 := HPS.out.2.2.2.2.2.2
          have ne2 : p1 ≠ p0 := fun e => ne1 e.symm
          clear hb4 v2 v3 b0 b1 t0 t1 hless f1 f2 e2
          have f1 := F1.out
          have f2 := E3.out
          go_upto_region 6 with fail
          go_region
          clear f1 f2
          have hsw := h4.out.swp p0 p1
          rw [← HU.out, ← HV.out] at hsw
          have H5 := Lib.hid hsw.drew
          have gg5 := Lib.hid (gr_then gg4.out (gr_drew (grown_set2 w4 c p0 p1 (.int .u64 (v.toNat : Int)) (.int .u64 (u.toNat : Int)))))
          clear hsw b0' b1' t0' t1'
          go_wp2
          go_roundw
          case rel => exact ⟨ch, Sort.swp d' p0 p1, by have := HPS.out; omega, by first | rfl | go_num, H5, Lib.hid (by rw [Sort.size_swp]; exact hsz.out), Lib.hid ((show Sort.siftDown ltI hi first ch (Sort.swp d' p0 p1) = Sort.siftDown ltI hi first r d' from by rw [HPS.out.1, HPS.out.2.1]; exact sd_down HPS.out.2.2.1 HCH.out (by rw [← HPS.out.1, ← HPS.out.2.1, ← HU.out, ← HV.out]; exact HLT.out)).trans heq.out), gg5⟩
          case measure => (have := HPS.out; simp [intOf]; omega)
    · have k1 : (hi : Int) ≤ (ch : Int) := by omega
      have k2 : decide ((hi : Int) ≤ (ch : Int)) = true := decide_eq_true k1
      have hst : ¬ 2 * r + 1 < hi := by omega
      clear hch
      go_wp2
      first | go_end0 | refine bodyPost_ret (results_none rfl _ _ _) rfl ?_
      have he : Sort.siftDown ltI hi first root d = d' := heq.out.symm.trans (sd_stop hst)
      rw [he]
      exact ⟨rfl, hh.out, hsz.out, gg.out⟩
end Go.Proofs.Ytpklkjekkbpeoaa

namespace Go.Proofs.Ytpklkjekkbpeoaa
open Go.RowKit
set_option linter.unusedVariables false
set_option linter.unusedSimpArgs false
attribute [local irreducible] mixN

set_option maxRecDepth 100000 in
set_option maxHeartbeats 51200000 in
theorem heap_any (B c cap a b : Nat) (d : Array It) (hab : a < b) (hb : b ≤ d.size) (w : World) (h : Arr w B c cap d) :
    Calls Try.prog 79 #[.slice (some ⟨c, 0, none⟩) d.size cap, .int .i64 (a : Int), .int .i64 (b : Int)] w fun e w' => e = .returned (.tuple #[]) ∧ Arr w' B c cap (Sort.heapSort ltI d a b) ∧ (Sort.heapSort ltI d a b).size = d.size ∧ w.grownBy w' (some c) := by
  have hs := h.s
  have H := Lib.hid h
  clear h
  obtain ⟨n, hn⟩ : ∃ n, n = d.size := ⟨_, rfl⟩
  rw [← hn] at hb hs ⊢
  have HN := Lib.hid hn
  clear hn
  obtain ⟨hi, hhi⟩ : ∃ hi, hi = b - a := ⟨_, rfl⟩
  have e1 : (b : Int) - (a : Int) = (hi : Int) := by omega
  have hf : a + hi ≤ n := by omega
  have h0 : 0 < hi := by omega
  have HHI := Lib.hid hhi
  clear hhi
  obtain ⟨K, hK⟩ : ∃ K, K = (hi - 1) / 2 + 1 := ⟨_, rfl⟩
  have hKn : K ≤ 256 := by omega
  have hK1 : K ≤ hi := by omega
  go_enter Try.func79, Try.ntmps79
  go_wp2_with fail
  try rw [e1]
  try rw [show ((hi : Int) - 1) / 2 = (K : Int) - 1 from by omega]
  have HK := Lib.hid hK
  clear hK e1
  go_loopw [9] (fun i w' => ∃ (k : Nat) (d' : Array It), k ≤ K ∧ i = .int .i64 ((k : Int) - 1) ∧ Hid (Arr w' B c cap d') ∧ Hid (d'.size = n) ∧ Hid (Sort.heapBuild ltI hi a k d' = Sort.heapBuild ltI hi a K d) ∧ Hid (w.grownBy w' (some c))) (fun i _ => (intOf i + 1).toNat)
  case atStart => exact ⟨K, d, Nat.le_refl _, rfl, H, Lib.hid HN.out.symm, Lib.hid rfl, Lib.hid (GR.grown_of_bl (Below.refl _ _) _)⟩
  case round =>
    obtain ⟨W0, hw_⟩ : ∃ x : World, x = wr := ⟨_, rfl⟩
    subst hw_
    obtain ⟨k, d', hk, rfl, hh, hsz, heq, gg⟩ := hrel
    rcases k with _ | k
    · rw [show (((0 : Nat) : Int) - 1) = -1 from rfl]
      have HD := Lib.hid (show d' = Sort.heapBuild ltI hi a K d from heq.out)
      go_wp2_with fail
      go_loopw [10] (fun i w' => ∃ (k : Nat) (d2 : Array It), k ≤ hi ∧ i = .int .i64 ((k : Int) - 1) ∧ Hid (Arr w' B c cap d2) ∧ Hid (d2.size = n) ∧ Hid (Sort.heapPop ltI a k d2 = Sort.heapPop ltI a hi d') ∧ Hid (w.grownBy w' (some c))) (fun i _ => (intOf i + 1).toNat)
      case atStart => exact ⟨hi, d', Nat.le_refl _, rfl, hh, hsz, Lib.hid rfl, gg⟩
      case round =>
        obtain ⟨W1, hw_⟩ : ∃ x : World, x = wr := ⟨_, rfl⟩
        subst hw_
        obtain ⟨k, d2, hk2, rfl, h2, hsz2, heq2, gg2⟩ := hrel
        rcases k with _ | k
        · go_wp2
          go_end0
          have he : Sort.heapSort ltI d a b = d2 := by
            have e2 : Sort.heapPop ltI a 0 d2 = Sort.heapPop ltI a hi d' := heq2.out
            unfold Sort.heapSort
            rw [← HHI.out, ← HK.out, ← HD.out, ← e2]
            rfl
          rw [he]
          exact ⟨rfl, h2.out, hsz2.out, gg2.out⟩
        · rw [show (((k + 1 : Nat) : Int) - 1) = (k : Int) from by omega]
          obtain ⟨p, hp⟩ : ∃ p, p = a + k := ⟨_, rfl⟩
          have q0 : (0 : Int) ≤ (p : Int) := by omega
          have q1 : (p : Int) < (n : Int) := by omega
          have q2 : (0 : Int) ≤ (a : Int) := by omega
          have q3 : (a : Int) < (n : Int) := by omega
          have q4 : (0 : Int) ≤ (k : Int) := by omega
          obtain ⟨a0, f0⟩ := h2.out.at_ a (by rw [hsz2.out]; omega)
          obtain ⟨a1, f1⟩ := h2.out.at_ p (by rw [hsz2.out]; omega)
          have e2 : (a : Int) + (k : Int) = (p : Int) := by omega
          obtain ⟨x, hx⟩ : ∃ x, x = d2[a]! := ⟨_, rfl⟩
          obtain ⟨y, hy⟩ : ∃ y, y = d2[p]! := ⟨_, rfl⟩
          rw [← hx] at a0
          rw [← hy] at a1
          have HX := Lib.hid hx
          have HY := Lib.hid hy
          have HP := Lib.hid hp
          clear hx hy hp
          by_cases hk0 : a = p
          · subst hk0
            go_upto_region 10 with fail
            go_region
            clear e2
            have hsw := h2.out.swp a a
            rw [← HX.out] at hsw
            obtain ⟨w3, hw3⟩ : ∃ w3, w3 = ((W1.setCell ⟨c, a, none⟩ (.int .u64 (x.toNat : Int))).setCell ⟨c, a, none⟩ (.int .u64 (x.toNat : Int))).drew := ⟨_, rfl⟩
            rw [← hw3]
            have H3 := Lib.hid (show Arr w3 B c cap (Sort.swp d2 a a) from by rw [hw3]; exact hsw.drew)
            have gg3 := Lib.hid (show w.grownBy w3 (some c) from by rw [hw3]; exact gr_then gg2.out (gr_drew (grown_set2 W1 c a a _ _)))
            have hs3 : (Sort.swp d2 a a).size = n := by rw [Sort.size_swp]; exact hsz2.out
            clear hsw hw3 a0 a1 f0 f1
            have hcall := sift_any B c cap 0 k a (Sort.swp d2 a a) (by rw [hs3]; omega) (by omega) w3 H3.out
            rw [hs3] at hcall
            go_wp2_with (go_at_call 91; refine (hcall).mono ?_; rintro e w4 ⟨rfl, h4, hs4, g4⟩; have H4 := Lib.hid h4; have hsz4 := Lib.hid hs4; have gg4 := Lib.hid (gr_then gg3.out g4); clear h4 hs4 g4)
            go_roundw
            case rel => exact ⟨k, _, by omega, by go_num, H4, hsz4, Lib.hid (show Sort.heapPop ltI a k (Sort.siftDown ltI k a 0 (Sort.swp d2 a a)) = _ from by have h : Sort.heapPop ltI a k (Sort.siftDown ltI k a 0 (Sort.swp d2 a (a + k))) = Sort.heapPop ltI a hi d' := heq2.out; rw [← HP.out] at h; exact h), gg4⟩
            case measure => simp [intOf]
          · have ne1 : a ≠ p := hk0
            have ne2 : p ≠ a := fun e => hk0 e.symm
            clear hk0
            go_upto_region 10 with fail
            go_region
            clear e2
            have hsw := h2.out.swp a p
            rw [← HX.out, ← HY.out] at hsw
            obtain ⟨w3, hw3⟩ : ∃ w3, w3 = ((W1.setCell ⟨c, a, none⟩ (.int .u64 (y.toNat : Int))).setCell ⟨c, p, none⟩ (.int .u64 (x.toNat : Int))).drew := ⟨_, rfl⟩
            rw [← hw3]
            have H3 := Lib.hid (show Arr w3 B c cap (Sort.swp d2 a p) from by rw [hw3]; exact hsw.drew)
            have gg3 := Lib.hid (show w.grownBy w3 (some c) from by rw [hw3]; exact gr_then gg2.out (gr_drew (grown_set2 W1 c a p _ _)))
            have hs3 : (Sort.swp d2 a p).size = n := by rw [Sort.size_swp]; exact hsz2.out
            clear hsw hw3 a0 a1 f0 f1
            have hcall := sift_any B c cap 0 k a (Sort.swp d2 a p) (by rw [hs3]; omega) (by omega) w3 H3.out
            rw [hs3] at hcall
            go_wp2_with (go_at_call 91; refine (hcall).mono ?_; rintro e w4 ⟨rfl, h4, hs4, g4⟩; have H4 := Lib.hid h4; have hsz4 := Lib.hid hs4; have gg4 := Lib.hid (gr_then gg3.out g4); clear h4 hs4 g4)
            go_roundw
            case rel => exact ⟨k, _, by omega, by go_num, H4, hsz4, Lib.hid (show Sort.heapPop ltI a k (Sort.siftDown ltI k a 0 (Sort.swp d2 a p)) = _ from by rw [HP.out]; exact heq2.out), gg4⟩
            case measure => simp [intOf]
    · rw [show (((k + 1 : Nat) : Int) - 1) = (k : Int) from by omega]
      have hcall := sift_any B c cap k hi a d' (by rw [hsz.out]; omega) (by omega) W0 hh.out
      rw [hsz.out] at hcall
      have q4 : (0 : Int) ≤ (k : Int) := by omega
      go_wp2_with (go_at_call 91; refine (hcall).mono ?_; rintro e w4 ⟨rfl, h4, hs4, g4⟩; have H4 := Lib.hid h4; have hsz4 := Lib.hid hs4; have gg4 := Lib.hid (gr_then gg.out g4); clear h4 hs4 g4)
      go_roundw
      case rel => exact ⟨k, _, by omega, by go_num, H4, hsz4, Lib.hid (show Sort.heapBuild ltI hi a k (Sort.siftDown ltI hi a k d') = _ from heq.out), gg4⟩
      case measure => simp [intOf]
end Go.Proofs.Ytpklkjekkbpeoaa

namespace Go.Proofs.Ytpklkjekkbpeoaa
open Go.RowKit
set_option linter.unusedVariables false
set_option linter.unusedSimpArgs false
attribute [local irreducible] mixN

/-- A row that held d holds d', whose places a .. b - 1 are those of d in some order. -/
theorem perm_swp {a b i j : Nat} {d d' : Array It} (h : Sort.PermIn a b d d') (hb : b ≤ d.size) (h1 : a ≤ i) (h2 : i < b) (h3 : a ≤ j) (h4 : j < b) : Sort.PermIn a b d (Sort.swp d' i j) :=
  Sort.permIn_trans _ _ _ _ _ h (Sort.swp_permIn d' a b i j h1 h2 h3 h4 (by rw [h.1]; exact hb))
set_option maxRecDepth 100000 in
set_option maxHeartbeats 25600000 in
theorem reverse_any (B c cap a b : Nat) (d : Array It) (hab : a < b) (hb : b ≤ d.size) (w : World) (h : Arr w B c cap d) :
    Calls Try.prog 82 #[.slice (some ⟨c, 0, none⟩) d.size cap, .int .i64 (a : Int), .int .i64 (b : Int)] w fun e w' => e = .returned (.tuple #[]) ∧ (∃ d', Arr w' B c cap d' ∧ Sort.PermIn a b d d') ∧ w.grownBy w' (some c) := by
  have hs := h.s
  have H := Lib.hid h
  clear h
  obtain ⟨n, hn⟩ : ∃ n, n = d.size := ⟨_, rfl⟩
  have HBD := Lib.hid hb
  rw [← hn] at hb hs ⊢
  have HN := Lib.hid hn
  clear hn
  obtain ⟨z, hz⟩ : ∃ z, b = z + 1 := ⟨b - 1, by omega⟩
  have e1 : (b : Int) - 1 = (z : Int) := by omega
  have hz1 : a ≤ z := by omega
  have hz2 : z < b := by omega
  clear hz
  go_enter Try.func82, Try.ntmps82
  go_wp2_with fail
  clear e1
  go_loopw [6, 7] (fun u v w' => ∃ (i j : Nat) (d' : Array It), a ≤ i ∧ i ≤ j + 1 ∧ j < b ∧ a ≤ j ∧ u = .int .i64 (i : Int) ∧ v = .int .i64 (j : Int) ∧ Hid (Arr w' B c cap d') ∧ Hid (Sort.PermIn a b d d') ∧ Hid (w.grownBy w' (some c))) (fun u v _ => (intOf v + 1 - intOf u).toNat)
  case atStart => exact ⟨a, z, d, Nat.le_refl _, by omega, hz2, hz1, rfl, rfl, H, Lib.hid (Sort.permIn_refl _ _ _), Lib.hid (GR.grown_of_bl (Below.refl _ _) _)⟩
  case round =>
    obtain ⟨W0, hw_⟩ : ∃ x : World, x = wr := ⟨_, rfl⟩
    subst hw_
    obtain ⟨i, j, d', hi, hij, hj, haj, rfl, rfl, hh, hp, gg⟩ := hrel
    by_cases hlt : i < j
    · have hsz : d'.size = n := by rw [hp.out.1]; exact HN.out.symm
      have k1 : (i : Int) < (j : Int) := by omega
      have q0 : (0 : Int) ≤ (i : Int) := by omega
      have q1 : (i : Int) < (n : Int) := by omega
      have q2 : (0 : Int) ≤ (j : Int) := by omega
      have q3 : (j : Int) < (n : Int) := by omega
      obtain ⟨a0, f0⟩ := hh.out.at_ i (by omega)
      obtain ⟨a1, f1⟩ := hh.out.at_ j (by omega)
      obtain ⟨x, hx⟩ : ∃ x, x = d'[i]! := ⟨_, rfl⟩
      obtain ⟨y, hy⟩ : ∃ y, y = d'[j]! := ⟨_, rfl⟩
      rw [← hx] at a0
      rw [← hy] at a1
      have ne1 : i ≠ j := by omega
      have ne2 : j ≠ i := by omega
      have hsw := hh.out.swp i j
      rw [← hx, ← hy] at hsw
      have HSW := Lib.hid hsw.drew
      have HP := Lib.hid (perm_swp hp.out HBD.out hi (by omega) haj hj)
      clear hsw hx hy
      go_upto_region 3 with fail
      go_region
      have gg3 := Lib.hid (gr_then gg.out (gr_drew (grown_set2 W0 c i j (.int .u64 (y.toNat : Int)) (.int .u64 (x.toNat : Int)))))
      clear a0 a1 f0 f1
      go_wp2
      go_roundw
      case rel => exact ⟨i + 1, j - 1, Sort.swp d' i j, by omega, by omega, by omega, by omega, by go_num, by first | (rw [show ((j - 1 : Nat) : Int) = (j : Int) - 1 from by omega]) | (congr 1; omega), HSW, HP, gg3⟩
      case measure => simp [intOf]; omega
    · have k1 : ¬ (i : Int) < (j : Int) := by omega
      go_wp2
      go_end0
      exact ⟨rfl, ⟨d', hh.out, hp.out⟩, gg.out⟩
end Go.Proofs.Ytpklkjekkbpeoaa

namespace Go.Proofs.Ytpklkjekkbpeoaa
open Go.RowKit
set_option linter.unusedVariables false
set_option linter.unusedSimpArgs false
attribute [local irreducible] mixN

theorem Arr.ne {w : World} {B c cap g : Nat} {d : Array It} {t : TypeId} {cs : Array Value} (h : Arr w B c cap d) (hg : GR.Blk w g t cs) (ht : 24 ≠ t) : c ≠ g := fun e => GR.own_blk_ne h.o hg ht (by simp [Value.ownBlock, e])
theorem Arr.grown {w w' : World} {B c cap g : Nat} {d : Array It} (h : Arr w B c cap d) (hg : w.grownBy w' (some g)) (hne : c ≠ g) : Arr w' B c cap d := ⟨h.o.grown hg (.inr (by simpa [Value.ownBlock] using hne)), h.s⟩
theorem grown_cell (w : World) (g i : Nat) (x : Value) : w.grownBy (w.setCell ⟨g, i, none⟩ x) (some g) :=
  ⟨rfl, rfl, rfl, by simp [World.setCell], fun k _ hk => Below.heap_setCell _ _ _ _ (fun e => hk (by simp [e]))⟩
/-- Swaps were counted: the count's block alone was written. -/
structure Cnt (w w' : World) (B c cap g : Nat) (d : Array It) : Prop where
  s : ∃ s : Int, GR.Blk w' g 3 #[.int .i64 s]
  a : Arr w' B c cap d
  g : w.grownBy w' (some g)
set_option maxRecDepth 100000 in
set_option maxHeartbeats 12800000 in
theorem order2_any (B c cap g p q n : Nat) (s : Int) (d : Array It) (hn : n = d.size) (hp : p < n) (hq : q < n) (w : World) (h : Arr w B c cap d) (hg : GR.Blk w g 3 #[.int .i64 s]) :
    Calls Try.prog 99 #[.slice (some ⟨c, 0, none⟩) n cap, .int .i64 (p : Int), .int .i64 (q : Int), .pointer (some ⟨g, 0, none⟩)] w fun e w' => (∃ p' q' : Nat, e = .returned (.tuple #[.int .i64 (p' : Int), .int .i64 (q' : Int)]) ∧ ((p' = p ∧ q' = q) ∨ (p' = q ∧ q' = p))) ∧ Cnt w w' B c cap g d := by
  have hs := h.s
  have H := Lib.hid h
  have HG := Lib.hid hg
  have HNE := Lib.hid (h.ne hg (by decide))
  clear h hg
  have p0 : (0 : Int) ≤ (p : Int) := by omega
  have p1 : (p : Int) < (n : Int) := by omega
  have q0 : (0 : Int) ≤ (q : Int) := by omega
  have q1 : (q : Int) < (n : Int) := by omega
  obtain ⟨a0, _⟩ := H.out.at_ p (by omega)
  obtain ⟨a1, _⟩ := H.out.at_ q (by omega)
  have HN := Lib.hid hn
  clear hn
  obtain ⟨x, hx⟩ : ∃ x, x = d[p]! := ⟨_, rfl⟩
  obtain ⟨y, hy⟩ : ∃ y, y = d[q]! := ⟨_, rfl⟩
  rw [← hx] at a0
  rw [← hy] at a1
  clear hx hy
  have v0 := over_cell a0
  have v1 := over_cell a1
  rcases hl : ltI y x with _ | _
  · have hless := less_any y x
    rw [hl] at hless
    clear hl
    go_enter Try.func99, Try.ntmps99
    go_upto_region 1 with fail
    refine over_region (W := w) (by kernel_rfl) (by kernel_rfl) (by repeat (first | exact Below.refl _ _ | refine bl_drewN ?_ _ | refine bl_drew ?_ | refine bl_alloc ?_ _)) ?_
    repeat (go_big_quiet_step (exact over_same (hless _)))
    refine wpQuiet_nil ?_
    intro _ hx_
    obtain ⟨x_, hx_⟩ := hx_
    subst hx_
    obtain ⟨w1, hb1⟩ := x_
    dsimp only
    have H1 := Lib.hid (H.out.below hb1)
    have G1 := Lib.hid (HG.out.below hb1 HG.out.lt)
    have B1 := Lib.hid (GR.grown_of_bl hb1 (some g))
    clear hb1 v0 v1 a0 a1 hless
    go_wp2
    go_ret2
    exact ⟨⟨p, q, rfl, .inl ⟨rfl, rfl⟩⟩, ⟨s, G1.out⟩, H1.out, B1.out⟩
  · have hless := less_any y x
    rw [hl] at hless
    clear hl
    go_enter Try.func99, Try.ntmps99
    go_upto_region 1 with fail
    refine over_region (W := w) (by kernel_rfl) (by kernel_rfl) (by repeat (first | exact Below.refl _ _ | refine bl_drewN ?_ _ | refine bl_drew ?_ | refine bl_alloc ?_ _)) ?_
    repeat (go_big_quiet_step (exact over_same (hless _)))
    refine wpQuiet_nil ?_
    intro _ hx_
    obtain ⟨x_, hx_⟩ := hx_
    subst hx_
    obtain ⟨w1, hb1⟩ := x_
    dsimp only
    have H1 := Lib.hid (H.out.below hb1)
    have G1 := Lib.hid (HG.out.below hb1 HG.out.lt)
    have B1 := Lib.hid (GR.grown_of_bl hb1 (some g))
    have g0 : w1.cell? ⟨g, 0, none⟩ = some (.int .i64 s) := G1.out.cell 0
    have g1 := G1.out.frozen 0
    clear hb1 v0 v1 a0 a1 hless
    go_wp2
    go_ret2
    exact ⟨⟨q, p, rfl, .inr ⟨rfl, rfl⟩⟩, ⟨_, G1.out.set_ 0 _⟩, ⟨H1.out.o.grown (grown_cell w1 g 0 _) (.inr (by have := HNE.out; simp [Value.ownBlock]; omega)), H1.out.s⟩, gr_then B1.out (grown_cell w1 g 0 _)⟩
theorem Cnt.then_ {w w1 w2 : World} {B c cap g : Nat} {d : Array It} (h : Cnt w w1 B c cap g d) (k : Cnt w1 w2 B c cap g d) : Cnt w w2 B c cap g d := ⟨k.s, k.a, gr_then h.g k.g⟩
set_option maxRecDepth 100000 in
set_option maxHeartbeats 12800000 in
theorem median_any (B c cap g p q r n : Nat) (s : Int) (d : Array It) (hn : n = d.size) (hp : p < n) (hq : q < n) (hr : r < n) (w : World) (h : Arr w B c cap d) (hg : GR.Blk w g 3 #[.int .i64 s]) :
    Calls Try.prog 95 #[.slice (some ⟨c, 0, none⟩) n cap, .int .i64 (p : Int), .int .i64 (q : Int), .int .i64 (r : Int), .pointer (some ⟨g, 0, none⟩)] w fun e w' => (∃ m : Nat, e = .returned (.int .i64 (m : Int)) ∧ (m = p ∨ m = q ∨ m = r)) ∧ Cnt w w' B c cap g d := by
  have HN := Lib.hid hn
  have h1 := order2_any B c cap g p q n s d hn hp hq w h hg
  clear h hg hn
  go_enter Try.func95, Try.ntmps95
  go_wp2_with fail
  refine (h1).mono ?_
  rintro e w1 ⟨⟨p1, q1, rfl, e1⟩, k1⟩
  have K1 := Lib.hid k1
  have E1 := Lib.hid e1
  obtain ⟨s1, hs1⟩ := k1.s
  have h2 := order2_any B c cap g q1 r n s1 d HN.out (by omega) hr w1 k1.a hs1
  clear h1 k1 e1 hs1
  go_wp2_with fail
  refine (h2).mono ?_
  rintro e w2 ⟨⟨q2, r2, rfl, e2⟩, k2⟩
  have K2 := Lib.hid (K1.out.then_ k2)
  have E2 := Lib.hid e2
  obtain ⟨s2, hs2⟩ := k2.s
  have h3 := order2_any B c cap g p1 q2 n s2 d HN.out (by have := E1.out; omega) (by have := E1.out; omega) w2 k2.a hs2
  clear h2 k2 e2 hs2 K1
  go_wp2_with fail
  refine (h3).mono ?_
  rintro e w3 ⟨⟨p3, q3, rfl, e3⟩, k3⟩
  have K3 := Lib.hid (K2.out.then_ k3)
  have E3 := Lib.hid e3
  clear h3 k3 e3 K2
  go_wp2
  go_ret
  exact ⟨⟨q3, rfl, by have := E1.out; have := E2.out; have := E3.out; omega⟩, K3.out⟩
set_option maxRecDepth 100000 in
theorem adjacent_any (B c cap g p n : Nat) (s : Int) (d : Array It) (hn : n = d.size) (hp : 1 ≤ p) (hp2 : p + 1 < n) (w : World) (h : Arr w B c cap d) (hg : GR.Blk w g 3 #[.int .i64 s]) :
    Calls Try.prog 94 #[.slice (some ⟨c, 0, none⟩) n cap, .int .i64 (p : Int), .pointer (some ⟨g, 0, none⟩)] w fun e w' => (∃ m : Nat, e = .returned (.int .i64 (m : Int)) ∧ p ≤ m + 1 ∧ m ≤ p + 1) ∧ Cnt w w' B c cap g d := by
  have hs := h.s
  obtain ⟨u, hu⟩ : ∃ u, u + 1 = p := ⟨p - 1, by omega⟩
  obtain ⟨v, hv⟩ : ∃ v, v = p + 1 := ⟨_, rfl⟩
  have e1 : (p : Int) - 1 = (u : Int) := by omega
  have e2 : (p : Int) + 1 = (v : Int) := by omega
  have hv256 : v ≤ 256 := by omega
  have h1 := median_any B c cap g u p v n s d hn (by omega) (by omega) (by omega) w h hg
  have HU := Lib.hid hu
  have HV := Lib.hid hv
  clear h hg hn hu hv
  go_enter Try.func94, Try.ntmps94
  go_wp2_with (go_at_call 95; refine (h1).mono ?_; rintro e w1 ⟨⟨m, rfl, e3⟩, k1⟩)
  go_ret
  exact ⟨⟨m, rfl, by have := HU.out; have := HV.out; omega⟩, k1⟩
set_option maxRecDepth 100000 in
set_option maxHeartbeats 25600000 in
theorem pivot_any (B c cap a b : Nat) (d : Array It) (hab : a + 12 < b) (hb : b ≤ d.size) (w : World) (h : Arr w B c cap d) :
    Calls Try.prog 81 #[.slice (some ⟨c, 0, none⟩) d.size cap, .int .i64 (a : Int), .int .i64 (b : Int)] w fun e w' => (∃ (m : Nat) (t : Int), e = .returned (.tuple #[.int .i64 (m : Int), .int .i64 t]) ∧ a ≤ m ∧ m < b ∧ (t = 0 ∨ t = 1 ∨ t = 2)) ∧ Arr w' B c cap d ∧ Below w.heap.size w w' := by
  have hs := h.s
  have H := Lib.hid h
  clear h
  obtain ⟨n, hn⟩ : ∃ n, n = d.size := ⟨_, rfl⟩
  rw [← hn] at hb hs ⊢
  have HN := Lib.hid hn
  clear hn
  obtain ⟨l, hl⟩ : ∃ l, l = b - a := ⟨_, rfl⟩
  have e1 : (b : Int) - (a : Int) = (l : Int) := by omega
  obtain ⟨i, hi⟩ : ∃ i, i = a + l / 4 := ⟨_, rfl⟩
  obtain ⟨j, hj⟩ : ∃ j, j = a + l / 4 * 2 := ⟨_, rfl⟩
  obtain ⟨k, hk⟩ : ∃ k, k = a + l / 4 * 3 := ⟨_, rfl⟩
  have hbd : a + 3 ≤ i ∧ i < j ∧ j < k ∧ k + 1 < b ∧ k ≤ 256 := by omega
  have hl8 : 8 ≤ l ∧ l ≤ 256 := by omega
  go_enter Try.func81, Try.ntmps81
  have HI := Lib.hid (show (a : Int) + (l : Int) / 4 = (i : Int) ∧ (a : Int) + (l : Int) / 4 * 2 = (j : Int) ∧ (a : Int) + (l : Int) / 4 * 3 = (k : Int) from ⟨by omega, by omega, by omega⟩)
  clear hl hi hj hk
  go_upto_region 6 with fail
  rw [HI.out.2.2, HI.out.2.1, HI.out.1]
  clear e1
  obtain ⟨G, hG⟩ : ∃ G, G = w.heap.size := ⟨_, rfl⟩
  obtain ⟨w1, hw1⟩ : ∃ w1, w1 = w.alloc (.cells #[.int .i64 0] 3) := ⟨_, rfl⟩
  rw [← hG, ← hw1]
  have XG : Hid (GR.Blk w1 G 3 #[.int .i64 0]) := Lib.hid (by rw [hw1]; exact newAt _ _ hG.symm)
  have XA : Hid (Arr w1 B c cap d) := Lib.hid (by rw [hw1]; exact H.out.below (by repeat (first | exact Below.refl _ _ | refine bl_drewN ?_ _ | refine bl_drew ?_ | refine bl_alloc ?_ _)))
  have BB : Hid (Below w.heap.size w w1) := Lib.hid (by rw [hw1]; exact (by repeat (first | exact Below.refl _ _ | refine bl_drewN ?_ _ | refine bl_drew ?_ | refine bl_alloc ?_ _)))
  have hGw : w.heap.size ≤ G := by omega
  clear hw1 hG
  have HBD := Lib.hid hbd
  have l8 := hl8.1
  have l256 := hl8.2
  clear hbd hl8
  by_cases h50 : 50 ≤ l
  · have k0 : (50 : Int) ≤ (l : Int) := by omega
    have k1 : (8 : Int) ≤ (l : Int) := by omega
    have h1 := adjacent_any B c cap G i n 0 d HN.out (by have := HBD.out; omega) (by have := HBD.out; omega) w1 XA.out XG.out
    go_wp2_with fail
    refine (h1).mono ?_
    rintro e w2 ⟨⟨m1, rfl, b1, b1'⟩, k1'⟩
    have K2 := Lib.hid k1'
    have M1 := Lib.hid (show a + 2 ≤ m1 ∧ m1 < b by have := HBD.out; omega)
    obtain ⟨s1, hs1⟩ := k1'.s
    have h2 := adjacent_any B c cap G j n s1 d HN.out (by have := HBD.out; omega) (by have := HBD.out; omega) w2 k1'.a hs1
    clear h1 k1' hs1 b1 b1'
    go_wp2_with fail
    refine (h2).mono ?_
    rintro e w3 ⟨⟨m2, rfl, b1, b1'⟩, k2'⟩
    have K3 := Lib.hid (K2.out.then_ k2')
    have M2 := Lib.hid (show a + 2 ≤ m2 ∧ m2 < b by have := HBD.out; omega)
    obtain ⟨s2, hs2⟩ := k2'.s
    have h3 := adjacent_any B c cap G k n s2 d HN.out (by have := HBD.out; omega) (by have := HBD.out; omega) w3 k2'.a hs2
    clear h2 k2' hs2 b1 b1' K2
    go_wp2_with fail
    refine (h3).mono ?_
    rintro e w4 ⟨⟨m3, rfl, b1, b1'⟩, k3'⟩
    have K4 := Lib.hid (K3.out.then_ k3')
    have M3 := Lib.hid (show a + 2 ≤ m3 ∧ m3 < b by have := HBD.out; omega)
    obtain ⟨s3, hs3⟩ := k3'.s
    have h4 := median_any B c cap G m1 m2 m3 n s3 d HN.out (by have := M1.out; omega) (by have := M2.out; omega) (by have := M3.out; omega) w4 k3'.a hs3
    clear h3 k3' hs3 b1 b1' K3
    go_wp2_with fail
    refine (h4).mono ?_
    rintro e w9 ⟨⟨m, rfl, e3⟩, k4'⟩
    have K9 := Lib.hid (K4.out.then_ k4')
    have HM := Lib.hid (show a ≤ m ∧ m < b by have := M1.out; have := M2.out; have := M3.out; omega)
    clear h4 k4' e3 K4
    obtain ⟨sv, hsv⟩ := K9.out.s
    have HSV := Lib.hid hsv
    have c9 : w9.cell? ⟨G, 0, none⟩ = some (.int .i64 sv) := hsv.cell 0
    clear hsv
    have HF := Lib.hid (show Arr w9 B c cap d ∧ Below w.heap.size w w9 from ⟨K9.out.a, Below.grown BB.out K9.out.g BB.out.size (fun b hb => by cases hb; omega)⟩)
    clear K9
    by_cases h0 : sv = 0
    · have r0 : decide (sv = 0) = true := decide_eq_true h0
      have r1 : (sv == 0) = true := by simp [h0]
      go_wp2
      go_ret2
      exact ⟨⟨m, 1, rfl, HM.out.1, HM.out.2, .inr (.inl rfl)⟩, HF.out⟩
    · have r0 : decide (sv = 0) = false := decide_eq_false h0
      have r1 : (sv == 0) = false := by simpa using h0
      by_cases h12 : sv = 12
      · have r2 : decide (sv = 12) = true := decide_eq_true h12
        have r3 : (sv == 12) = true := by simp [h12]
        go_wp2
        go_ret2
        exact ⟨⟨m, 2, rfl, HM.out.1, HM.out.2, .inr (.inr rfl)⟩, HF.out⟩
      · have r2 : decide (sv = 12) = false := decide_eq_false h12
        have r3 : (sv == 12) = false := by simpa using h12
        go_wp2
        go_ret2
        exact ⟨⟨m, 0, rfl, HM.out.1, HM.out.2, .inl rfl⟩, HF.out⟩
  · have k0 : ¬ (50 : Int) ≤ (l : Int) := by omega
    have k1 : (8 : Int) ≤ (l : Int) := by omega
    have h4 := median_any B c cap G i j k n 0 d HN.out (by have := HBD.out; omega) (by have := HBD.out; omega) (by have := HBD.out; omega) w1 XA.out XG.out
    go_wp2_with fail
    refine (h4).mono ?_
    rintro e w9 ⟨⟨m, rfl, e3⟩, k4'⟩
    have K9 := Lib.hid k4'
    have HM := Lib.hid (show a ≤ m ∧ m < b by have := HBD.out; omega)
    clear h4 k4' e3
    obtain ⟨sv, hsv⟩ := K9.out.s
    have HSV := Lib.hid hsv
    have c9 : w9.cell? ⟨G, 0, none⟩ = some (.int .i64 sv) := hsv.cell 0
    clear hsv
    have HF := Lib.hid (show Arr w9 B c cap d ∧ Below w.heap.size w w9 from ⟨K9.out.a, Below.grown BB.out K9.out.g BB.out.size (fun b hb => by cases hb; omega)⟩)
    clear K9
    by_cases h0 : sv = 0
    · have r0 : decide (sv = 0) = true := decide_eq_true h0
      have r1 : (sv == 0) = true := by simp [h0]
      go_wp2
      go_ret2
      exact ⟨⟨m, 1, rfl, HM.out.1, HM.out.2, .inr (.inl rfl)⟩, HF.out⟩
    · have r0 : decide (sv = 0) = false := decide_eq_false h0
      have r1 : (sv == 0) = false := by simpa using h0
      by_cases h12 : sv = 12
      · have r2 : decide (sv = 12) = true := decide_eq_true h12
        have r3 : (sv == 12) = true := by simp [h12]
        go_wp2
        go_ret2
        exact ⟨⟨m, 2, rfl, HM.out.1, HM.out.2, .inr (.inr rfl)⟩, HF.out⟩
      · have r2 : decide (sv = 12) = false := decide_eq_false h12
        have r3 : (sv == 12) = false := by simpa using h12
        go_wp2
        go_ret2
        exact ⟨⟨m, 0, rfl, HM.out.1, HM.out.2, .inl rfl⟩, HF.out⟩
end Go.Proofs.Ytpklkjekkbpeoaa

namespace Go.Proofs.Ytpklkjekkbpeoaa
open Go.RowKit
set_option linter.unusedVariables false
set_option linter.unusedSimpArgs false
attribute [local irreducible] mixN

theorem xor_some (x : It) (e : Int) (h0 : 0 ≤ e) (h1 : e < 18446744073709551616) : ∃ y : It, bits .xor .u64 (x.toNat : Int) e = (y.toNat : Int) := by
  refine ⟨x ^^^ BitVec.ofNat 64 e.toNat, ?_⟩
  rw [← xor_64, BitVec.toNat_ofNat]
  congr 1
  omega
theorem wrap_u64 (e : Int) : 0 ≤ IntKind.u64.wrap e ∧ IntKind.u64.wrap e < 18446744073709551616 := by
  show 0 ≤ e % 18446744073709551616 ∧ e % 18446744073709551616 < 18446744073709551616
  omega
set_option maxRecDepth 100000 in
set_option maxHeartbeats 6400000 in
theorem next_any (g : Nat) (x : It) (w : World) (hg : GR.Blk w g 135 #[.int .u64 (x.toNat : Int)]) :
    Calls Try.prog 93 #[.pointer (some ⟨g, 0, none⟩)] w fun e w' => (∃ y : It, e = .returned (.int .u64 (y.toNat : Int)) ∧ GR.Blk w' g 135 #[.int .u64 (y.toNat : Int)]) ∧ w.grownBy w' (some g) := by
  have HG := Lib.hid hg
  clear hg
  have a0 : w.cell? ⟨g, 0, none⟩ = some (.int .u64 (x.toNat : Int)) := HG.out.cell 0
  have a1 := HG.out.frozen 0
  go_enter Try.func93, Try.ntmps93
  go_upto_region 1 with fail
  go_region
  obtain ⟨y1, hy⟩ := xor_some x (IntKind.u64.wrap ((x.toNat : Int) * 8192)) (wrap_u64 _).1 (wrap_u64 _).2
  rw [hy]
  clear hy
  obtain ⟨u1, hu⟩ : ∃ u, u = (w.setCell ⟨g, 0, none⟩ (.int .u64 (y1.toNat : Int))).drew := ⟨_, rfl⟩
  rw [← hu]
  have G1 := Lib.hid (show GR.Blk u1 g 135 #[.int .u64 (y1.toNat : Int)] from by rw [hu]; exact (HG.out.set_ 0 _).drew)
  have R1 := Lib.hid (show w.grownBy u1 (some g) from by rw [hu]; exact gr_drew (grown_cell w g 0 _))
  have b1 : u1.cell? ⟨g, 0, none⟩ = some (.int .u64 (y1.toNat : Int)) := G1.out.cell 0
  have f1 := G1.out.frozen 0
  clear hu a0 a1
  go_upto_region 2 with fail
  go_region
  obtain ⟨y2, hy⟩ := xor_some y1 (((y1.toNat : Int) / 128)) (by have := y1.isLt; omega) (by have := y1.isLt; omega)
  rw [hy]
  clear hy
  obtain ⟨u2, hu⟩ : ∃ u, u = (u1.setCell ⟨g, 0, none⟩ (.int .u64 (y2.toNat : Int))).drew := ⟨_, rfl⟩
  rw [← hu]
  have G2 := Lib.hid (show GR.Blk u2 g 135 #[.int .u64 (y2.toNat : Int)] from by rw [hu]; exact (G1.out.set_ 0 _).drew)
  have R2 := Lib.hid (show w.grownBy u2 (some g) from by rw [hu]; exact gr_then R1.out (gr_drew (grown_cell u1 g 0 _)))
  have b2 : u2.cell? ⟨g, 0, none⟩ = some (.int .u64 (y2.toNat : Int)) := G2.out.cell 0
  have f2 := G2.out.frozen 0
  clear hu b1 f1
  go_upto_region 3 with fail
  go_region
  obtain ⟨y3, hy⟩ := xor_some y2 (IntKind.u64.wrap ((y2.toNat : Int) * 131072)) (wrap_u64 _).1 (wrap_u64 _).2
  rw [hy]
  clear hy
  obtain ⟨u3, hu⟩ : ∃ u, u = (u2.setCell ⟨g, 0, none⟩ (.int .u64 (y3.toNat : Int))).drew := ⟨_, rfl⟩
  rw [← hu]
  have G3 := Lib.hid (show GR.Blk u3 g 135 #[.int .u64 (y3.toNat : Int)] from by rw [hu]; exact (G2.out.set_ 0 _).drew)
  have R3 := Lib.hid (show w.grownBy u3 (some g) from by rw [hu]; exact gr_then R2.out (gr_drew (grown_cell u2 g 0 _)))
  have b3 : u3.cell? ⟨g, 0, none⟩ = some (.int .u64 (y3.toNat : Int)) := G3.out.cell 0
  have f3 := G3.out.frozen 0
  clear hu b2 f2
  go_wp2
  go_ret
  exact ⟨⟨y3, rfl, G3.out⟩, R3.out⟩
theorem pow_len : ∀ l, l < 257 → 8 ≤ l → l < 2 ^ Lib.bitLen l ∧ 2 ^ Lib.bitLen l ≤ 2 * l := by decide +kernel
theorem len_small : ∀ l, l < 257 → Lib.bitLen l ≤ 9 := by decide +kernel
theorem power_any (l : Nat) (h8 : 8 ≤ l) (h : l ≤ 256) (w : World) : Calls Try.prog 92 #[.int .i64 (l : Int)] w fun e w' => (∃ M : Nat, e = .returned (.int .u64 (M : Int)) ∧ l < M ∧ M ≤ 2 * l) ∧ w = w' := by
  have hp := pow_len l (by omega) h8
  have hb9 := len_small l (by omega)
  obtain ⟨q, hq⟩ : ∃ q, q = Lib.bitLen l := ⟨_, rfl⟩
  have hlen := Try.bits_Len (l : Int) w (by omega) (by omega)
  rw [Int.toNat_natCast] at hlen
  rw [← hq] at hp hb9 hlen
  obtain ⟨M, hM⟩ : ∃ M, M = 2 ^ q := ⟨_, rfl⟩
  rw [← hM] at hp
  have HM := Lib.hid hM
  have HP := Lib.hid hp
  clear hM hp hq
  go_enter Try.func92, Try.ntmps92
  go_wp2_with (go_at_call 64; refine (hlen).mono ?_; rintro e w1 ⟨rfl, rfl⟩)
  have hv : IntKind.u64.wrap ((2 : Int) ^ q) = (M : Int) := by
    have e : ((2 : Int) ^ q) = (M : Int) := by rw [HM.out]; push_cast; rfl
    rw [e]
    have := HP.out
    exact IntWalk.u64_in _ (by omega)
  rw [hv]
  go_ret
  exact ⟨⟨M, rfl, HP.out⟩, rfl⟩
theorem and_some (a b : Nat) (ha : a < 18446744073709551616) (hb : b < 18446744073709551616) : ∃ o : Nat, bits .and .u64 (a : Int) (b : Int) = (o : Int) ∧ o ≤ b := ⟨a &&& b, u64_and_nat a b ha hb, Nat.and_le_right⟩
set_option maxRecDepth 100000 in
set_option maxHeartbeats 51200000 in
theorem break_any (B c cap a b : Nat) (d : Array It) (hab : a + 12 < b) (hb : b ≤ d.size) (w : World) (h : Arr w B c cap d) :
    Calls Try.prog 80 #[.slice (some ⟨c, 0, none⟩) d.size cap, .int .i64 (a : Int), .int .i64 (b : Int)] w fun e w' => e = .returned (.tuple #[]) ∧ (∃ d', Arr w' B c cap d' ∧ Sort.PermIn a b d d') ∧ w.grownBy w' (some c) := by
  have hs := h.s
  have H := Lib.hid h
  have HBD := Lib.hid hb
  clear h
  obtain ⟨n, hn⟩ : ∃ n, n = d.size := ⟨_, rfl⟩
  rw [← hn] at hb hs ⊢
  have HN := Lib.hid hn
  clear hn
  obtain ⟨l, hl⟩ : ∃ l, l = b - a := ⟨_, rfl⟩
  have e1 : (b : Int) - (a : Int) = (l : Int) := by omega
  obtain ⟨i0, hi0⟩ : ∃ i0, i0 + 1 = a + l / 4 * 2 := ⟨a + l / 4 * 2 - 1, by omega⟩
  have e2 : (a : Int) + (l : Int) / 4 * 2 - 1 = (i0 : Int) := by omega
  have e3 : (a : Int) + (l : Int) / 4 * 2 + 1 = (i0 : Int) + 2 := by omega
  have hbd : a ≤ i0 ∧ i0 + 2 < b := by omega
  have hl8 : 13 ≤ l ∧ l ≤ 256 ∧ a + l = b := by omega
  have HE := Lib.hid (show (a : Int) + (l : Int) / 4 * 2 - 1 = (i0 : Int) ∧ (a : Int) + (l : Int) / 4 * 2 + 1 = (i0 : Int) + 2 from ⟨e2, e3⟩)
  clear hl hi0 e2 e3
  have k1 : (8 : Int) ≤ (l : Int) := by omega
  go_enter Try.func80, Try.ntmps80
  go_upto_region 3 with fail
  obtain ⟨G, hG⟩ : ∃ G, G = w.heap.size := ⟨_, rfl⟩
  obtain ⟨w1, hw1⟩ : ∃ w1, w1 = w.alloc (.cells #[.int .u64 (l : Int)] 135) := ⟨_, rfl⟩
  rw [← hG, ← hw1]
  have XG : Hid (∃ x : It, GR.Blk w1 G 135 #[.int .u64 (x.toNat : Int)]) := Lib.hid ⟨BitVec.ofNat 64 l, by
    rw [hw1, BitVec.toNat_ofNat, Nat.mod_eq_of_lt (by omega)]; exact newAt _ _ hG.symm⟩
  have XA : Hid (Arr w1 B c cap d) := Lib.hid (by rw [hw1]; exact H.out.below (by repeat (first | exact Below.refl _ _ | refine bl_drewN ?_ _ | refine bl_drew ?_ | refine bl_alloc ?_ _)))
  have GG : Hid (w.grownBy w1 (some c)) := Lib.hid (by rw [hw1]; exact GR.grown_of_bl (by repeat (first | exact Below.refl _ _ | refine bl_drewN ?_ _ | refine bl_drew ?_ | refine bl_alloc ?_ _)) _)
  have hGc : G ≠ c := by have := H.out.lt; omega
  have hGw : w.heap.size ≤ G := by omega
  clear hw1 hG
  go_wp2_with fail
  refine (power_any l (by omega) (by omega) w1).mono ?_
  rintro e w2 ⟨⟨M, rfl, hM1, hM2⟩, rfl⟩
  obtain ⟨N, hN⟩ : ∃ N, N + 1 = M := ⟨M - 1, by omega⟩
  have e5 : (M : Int) - 1 = (N : Int) := by omega
  have hN2 : N < 2 * l := by omega
  clear hN hM1 hM2 e1 k1
  go_wp2_with fail
  rw [HE.out.1]
  go_loopw [9] (fun i w' => ∃ (t : Nat) (x : It) (d' : Array It), t ≤ 3 ∧ i = .int .i64 ((i0 + t : Nat) : Int) ∧ Hid (GR.Blk w' G 135 #[.int .u64 (x.toNat : Int)]) ∧ Hid (Arr w' B c cap d') ∧ Hid (Sort.PermIn a b d d') ∧ Hid (w.grownBy w' (some c))) (fun i _ => i0 + 3 - (intOf i).toNat)
  case atStart =>
    obtain ⟨x, hx⟩ := XG.out
    exact ⟨0, x, d, Nat.zero_le _, rfl, Lib.hid hx, XA, Lib.hid (Sort.permIn_refl _ _ _), GG⟩
  case round =>
    obtain ⟨W0, hw_⟩ : ∃ x : World, x = wr := ⟨_, rfl⟩
    subst hw_
    obtain ⟨t, x, d', ht, rfl, xg, hh, pp, gg⟩ := hrel
    obtain ⟨i, hi⟩ : ∃ i, i = i0 + t := ⟨_, rfl⟩
    rw [← hi]
    have HI := Lib.hid hi
    clear hi
    by_cases hlt : t < 3
    · have hib : a ≤ i ∧ i < b := by have := HI.out; omega
      have hsz : d'.size = n := by rw [pp.out.1]; exact HN.out.symm
      have hi2 : (i : Int) ≤ (i0 : Int) + 2 := by have := HI.out; omega
      have r1 : decide ((i : Int) ≤ (i0 : Int) + 2) = true := decide_eq_true hi2
      have e6 := HE.out.2
      have hnx := next_any G x W0 xg.out
      go_upto_region 7 with fail
      clear e6
      go_wp2_with fail
      refine (hnx).mono ?_
      rintro e w3 ⟨⟨y, rfl, hx3⟩, hg3⟩
      have x3 := Lib.hid hx3
      have g3 := Lib.hid (GR.grown_step gg.out hg3 (.inr (fun b hb => by cases hb; exact hGw)))
      have h3 := Lib.hid (hh.out.grown hg3 hGc.symm)
      clear hx3 hg3 hnx
      obtain ⟨o, ho, hoN⟩ := and_some y.toNat N y.isLt (by omega)
      go_upto_region 8 with fail
      try rw [ho]
      clear ho e5
      by_cases hol : o < l
      · have k2 : ¬ (l : Int) ≤ (o : Int) := by omega
        have k3 : ¬ l ≤ o := by omega
        have k4 : (o : Int) < (l : Int) := by omega
        obtain ⟨p, hp⟩ : ∃ p, p = a + o := ⟨_, rfl⟩
        have hpb : a ≤ p ∧ p < b := by omega
        have e4 : (a : Int) + (o : Int) = (p : Int) := by omega
        have q0 : (0 : Int) ≤ (i : Int) := by omega
        have q1 : (i : Int) < (n : Int) := by omega
        have q2 : (0 : Int) ≤ (p : Int) := by omega
        have q3 : (p : Int) < (n : Int) := by omega
        obtain ⟨a0, f0⟩ := h3.out.at_ i (by rw [hsz]; omega)
        obtain ⟨a1, f1⟩ := h3.out.at_ p (by rw [hsz]; omega)
        obtain ⟨u, hu⟩ : ∃ u, u = d'[i]! := ⟨_, rfl⟩
        obtain ⟨v, hv⟩ : ∃ v, v = d'[p]! := ⟨_, rfl⟩
        rw [← hu] at a0
        rw [← hv] at a1
        have hsw := h3.out.swp i p
        rw [← hu, ← hv] at hsw
        have HSW := Lib.hid hsw.drew
        have HP := Lib.hid (perm_swp pp.out HBD.out hib.1 hib.2 hpb.1 hpb.2)
        have HPB := Lib.hid hpb
        clear hsw hu hv hp hpb
        by_cases hip : i = p
        · subst hip
          have huv : u = v := by
            rw [a0] at a1
            have := Option.some.inj a1
            injection this with _ h2
            exact BitVec.eq_of_toNat_eq (by omega)
          subst huv
          go_upto_region 10 with fail
          go_region
          clear e4
          have gg3 := Lib.hid (gr_then g3.out (gr_drew (grown_set2 w3 c i i (.int .u64 (u.toNat : Int)) (.int .u64 (u.toNat : Int)))))
          have x3' := Lib.hid ((x3.out.far (g := G) (p := ⟨c, i, none⟩) hGc (.int .u64 (u.toNat : Int))).far (p := ⟨c, i, none⟩) hGc (.int .u64 (u.toNat : Int)) |>.drew)
          clear a0 a1 f0 f1
          go_wp2
          go_roundw
          case rel => exact ⟨t + 1, y, _, by omega, by rw [show ((i0 + (t + 1) : Nat) : Int) = (i : Int) + 1 from by have := HI.out; omega], x3', HSW, HP, gg3⟩
          case measure => (have := HI.out; simp [intOf]; omega)
        · have ne1 : i ≠ p := hip
          have ne2 : p ≠ i := fun e => hip e.symm
          clear hip
          go_upto_region 10 with fail
          go_region
          clear e4
          have gg3 := Lib.hid (gr_then g3.out (gr_drew (grown_set2 w3 c i p (.int .u64 (v.toNat : Int)) (.int .u64 (u.toNat : Int)))))
          have x3' := Lib.hid ((x3.out.far (g := G) (p := ⟨c, i, none⟩) hGc (.int .u64 (v.toNat : Int))).far (p := ⟨c, p, none⟩) hGc (.int .u64 (u.toNat : Int)) |>.drew)
          clear a0 a1 f0 f1
          go_wp2
          go_roundw
          case rel => exact ⟨t + 1, y, _, by omega, by rw [show ((i0 + (t + 1) : Nat) : Int) = (i : Int) + 1 from by have := HI.out; omega], x3', HSW, HP, gg3⟩
          case measure => (have := HI.out; simp [intOf]; omega)
      · have k2 : (l : Int) ≤ (o : Int) := by omega
        have k3 : l ≤ o := by omega
        obtain ⟨o2, ho2⟩ : ∃ o2, o2 = o - l := ⟨_, rfl⟩
        have e7 : (o : Int) - (l : Int) = (o2 : Int) := by omega
        have hol2 : o2 < l := by omega
        clear ho2
        obtain ⟨p, hp⟩ : ∃ p, p = a + o2 := ⟨_, rfl⟩
        have hpb : a ≤ p ∧ p < b := by omega
        have e4 : (a : Int) + (o2 : Int) = (p : Int) := by omega
        have q0 : (0 : Int) ≤ (i : Int) := by omega
        have q1 : (i : Int) < (n : Int) := by omega
        have q2 : (0 : Int) ≤ (p : Int) := by omega
        have q3 : (p : Int) < (n : Int) := by omega
        obtain ⟨a0, f0⟩ := h3.out.at_ i (by rw [hsz]; omega)
        obtain ⟨a1, f1⟩ := h3.out.at_ p (by rw [hsz]; omega)
        obtain ⟨u, hu⟩ : ∃ u, u = d'[i]! := ⟨_, rfl⟩
        obtain ⟨v, hv⟩ : ∃ v, v = d'[p]! := ⟨_, rfl⟩
        rw [← hu] at a0
        rw [← hv] at a1
        have hsw := h3.out.swp i p
        rw [← hu, ← hv] at hsw
        have HSW := Lib.hid hsw.drew
        have HP := Lib.hid (perm_swp pp.out HBD.out hib.1 hib.2 hpb.1 hpb.2)
        have HPB := Lib.hid hpb
        clear hsw hu hv hp hpb
        by_cases hip : i = p
        · subst hip
          have huv : u = v := by
            rw [a0] at a1
            have := Option.some.inj a1
            injection this with _ h2
            exact BitVec.eq_of_toNat_eq (by omega)
          subst huv
          go_upto_region 10 with fail
          go_region
          clear e4
          have gg3 := Lib.hid (gr_then g3.out (gr_drew (grown_set2 w3 c i i (.int .u64 (u.toNat : Int)) (.int .u64 (u.toNat : Int)))))
          have x3' := Lib.hid ((x3.out.far (g := G) (p := ⟨c, i, none⟩) hGc (.int .u64 (u.toNat : Int))).far (p := ⟨c, i, none⟩) hGc (.int .u64 (u.toNat : Int)) |>.drew)
          clear a0 a1 f0 f1
          go_wp2
          go_roundw
          case rel => exact ⟨t + 1, y, _, by omega, by rw [show ((i0 + (t + 1) : Nat) : Int) = (i : Int) + 1 from by have := HI.out; omega], x3', HSW, HP, gg3⟩
          case measure => (have := HI.out; simp [intOf]; omega)
        · have ne1 : i ≠ p := hip
          have ne2 : p ≠ i := fun e => hip e.symm
          clear hip
          go_upto_region 10 with fail
          go_region
          clear e4
          have gg3 := Lib.hid (gr_then g3.out (gr_drew (grown_set2 w3 c i p (.int .u64 (v.toNat : Int)) (.int .u64 (u.toNat : Int)))))
          have x3' := Lib.hid ((x3.out.far (g := G) (p := ⟨c, i, none⟩) hGc (.int .u64 (v.toNat : Int))).far (p := ⟨c, p, none⟩) hGc (.int .u64 (u.toNat : Int)) |>.drew)
          clear a0 a1 f0 f1
          go_wp2
          go_roundw
          case rel => exact ⟨t + 1, y, _, by omega, by rw [show ((i0 + (t + 1) : Nat) : Int) = (i : Int) + 1 from by have := HI.out; omega], x3', HSW, HP, gg3⟩
          case measure => (have := HI.out; simp [intOf]; omega)
    · have e6 := HE.out.2
      have r1 : decide ((i : Int) ≤ (i0 : Int) + 2) = false := decide_eq_false (by have := HI.out; omega)
      have r2 : ¬ (i : Int) ≤ (i0 : Int) + 2 := by have := HI.out; omega
      go_wp2
      go_end0
      exact ⟨rfl, ⟨d', hh.out, pp.out⟩, gg.out⟩
end Go.Proofs.Ytpklkjekkbpeoaa
