/- DERIVED. An item laid over a sketch: lay, Add, Take. -/
import Derived.Test.YtpklkjekkbpeoaaSkMix
namespace Go.Proofs.Ytpklkjekkbpeoaa
open Go.RowKit
set_option linter.unusedVariables false
set_option linter.unusedSimpArgs false
attribute [local irreducible] mixN

theorem plcV_get (n : Nat) (x : BitVec 64) (k : Nat) (hk : k < 3) : (plcV n x)[k]? = some (.int .i64 (plc n x k : Int)) := by
  match k, hk with
  | 0, _ => rfl
  | 1, _ => rfl
  | 2, _ => rfl
theorem i16_b (n : Int) : IntKind.i16.wrap n = Int.bmod n 65536 := by
  simp [IntKind.wrap, IntKind.bits, IntKind.signed, Int.bmod]
  split <;> split <;> omega
theorem i16_add (a b : BitVec 16) : IntKind.i16.wrap (a.toInt + b.toInt) = (a + b).toInt := by
  rw [BitVec.toInt_add, i16_b]
theorem run_index3 {V : Array Value} {k : Nat} {v : Value} (hk : k < 3) (hv : V[k]? = some v) (h3 : V.size = 3) (w : World) : (Instr.index 50 (.agg V) (.int .i64 (k : Int))).run Try.prog w = .ok v w := by
  have h1 : (0 : Int) ≤ (k : Int) ∧ (k : Int) < 3 := by omega
  have h2 := Array.getElem?_eq_some_iff.1 hv
  obtain ⟨hb, h2⟩ := h2
  simp [Instr.index, run_underlying Try.underlying50, asIntOf, h1, go_sem]
  rw [if_pos hk, hv]
  rfl
theorem xor_64 (a b : BitVec 64) : bits .xor .u64 (a.toNat : Int) (b.toNat : Int) = ((a ^^^ b).toNat : Int) := by
  rw [BitVec.toNat_xor]; exact u64_xor_nat _ _ a.isLt b.isLt
theorem xor_32 (a b : BitVec 32) : bits .xor .u32 (a.toNat : Int) (b.toNat : Int) = ((a ^^^ b).toNat : Int) := by
  rw [BitVec.toNat_xor]; exact u32_xor_nat _ _ a.isLt b.isLt
theorem cel_at {w : World} {B c cap n : Nat} {l : List Cel} (h : GR.Own celK w B (.slice (some ⟨c, 0, none⟩) n cap) l) (p : Nat) (hp : p < l.length) (d : Cel) (hd : l[p] = d) :
    (w.cell? ⟨c, p * 3, none⟩ = some (.int .i16 d.n.toInt) ∧ w.cell? ⟨c, p * 3 + 1, none⟩ = some (.int .u64 (d.x.toNat : Int)) ∧ w.cell? ⟨c, p * 3 + 2, none⟩ = some (.int .u32 (d.h.toNat : Int))) ∧
    (w.frozen? ⟨c, p * 3, none⟩ = false ∧ w.frozen? ⟨c, p * 3 + 1, none⟩ = false ∧ w.frozen? ⟨c, p * 3 + 2, none⟩ = false) := by
  subst hd
  have hc := h.cells p hp
  exact ⟨⟨(hc 0 _ rfl).1, (hc 1 _ rfl).1, (hc 2 _ rfl).1⟩, (hc 0 _ rfl).2, (hc 1 _ rfl).2, (hc 2 _ rfl).2⟩
theorem cels_set (l : List Cel) (p : Nat) (hp : p < l.length) (d : Cel) : GR.cs celK (l.set p d) = (((GR.cs celK l).set (p * 3) (.int .i16 d.n.toInt)).set (p * 3 + 1) (.int .u64 (d.x.toNat : Int))).set (p * 3 + 2) (.int .u32 (d.h.toNat : Int)) := by
  induction l generalizing p with
  | nil => exact absurd hp (by simp)
  | cons y l ih =>
    have hc : ∀ (y : Cel) l, GR.cs celK (y :: l) = .int .i16 y.n.toInt :: .int .u64 (y.x.toNat : Int) :: .int .u32 (y.h.toNat : Int) :: GR.cs celK l := fun _ _ => rfl
    cases p with
    | zero => simp [hc]
    | succ p =>
      rw [List.set_cons_succ, hc, hc, ih p (by simpa using hp)]
      rw [show (p + 1) * 3 = p * 3 + 1 + 1 + 1 by omega]
      simp
/-- A cell of an own row set anew. -/
theorem own_setC {w : World} {B c cap n : Nat} {l : List Cel} (h : GR.Own celK w B (.slice (some ⟨c, 0, none⟩) n cap) l) (p : Nat) (hp : p < l.length) (d : Cel) :
    GR.Own celK (((w.setCell ⟨c, p * 3, none⟩ (.int .i16 d.n.toInt)).setCell ⟨c, p * 3 + 1, none⟩ (.int .u64 (d.x.toNat : Int))).setCell ⟨c, p * 3 + 2, none⟩ (.int .u32 (d.h.toNat : Int))) B (.slice (some ⟨c, 0, none⟩) n cap) (l.set p d) := by
  have hn : n = l.length := by
    rcases h.2 with ⟨hv, _⟩ | ⟨_, _, _, hv, _⟩
    · cases hv
    · injection hv
  subst hn
  have := (World.ownsRow.stored (World.ownsRow.stored (World.ownsRow.stored h (p * 3) (.int .i16 d.n.toInt)).1 (p * 3 + 1) (.int .u64 (d.x.toNat : Int))).1 (p * 3 + 2) (.int .u32 (d.h.toNat : Int))).1
  unfold GR.Own
  rw [List.length_set, cels_set l p hp d]
  exact this
theorem grown_set3 (w : World) (c : Nat) (i j k : Nat) (x y z : Value) : w.grownBy (((w.setCell ⟨c, i, none⟩ x).setCell ⟨c, j, none⟩ y).setCell ⟨c, k, none⟩ z) (some c) := by
  refine ⟨rfl, rfl, rfl, by simp [World.setCell], fun m hm hne => ?_⟩
  have : c ≠ m := fun e => hne (by rw [e])
  rw [Below.heap_setCell _ _ _ _ (fun e => this e.symm), Below.heap_setCell _ _ _ _ (fun e => this e.symm), Below.heap_setCell _ _ _ _ (fun e => this e.symm)]
theorem own_lay {w w2 : World} {B c cap n : Nat} {L : List Cel} {x : BitVec 64} {b : BitVec 16} {k : Nat} (h : GR.Own celK w B (.slice (some ⟨c, 0, none⟩) n cap) (layM k x b L)) (h3 : 3 ≤ L.length) (hk : k < 3) {P : Nat} {C : Cel}
    (hP : P = plc L.length x k) (hC : C = L[plc L.length x k]'(plc_lt x k h3 hk)) (hw : w2 = (w.setCell ⟨c, P * 3, none⟩ (.int .i16 (C.n + b).toInt)).setCell ⟨c, P * 3 + 1, none⟩ (.int .u64 ((C.x ^^^ x).toNat : Int))) :
    GR.Own celK (w2.setCell ⟨c, P * 3 + 2, none⟩ (.int .u32 ((C.h ^^^ ckV x).toNat : Int))) B (.slice (some ⟨c, 0, none⟩) n cap) (layM (k + 1) x b L) := by
  subst hP hC hw
  have := own_setC h (plc L.length x k) (by simpa using plc_lt x k h3 hk) ((L[plc L.length x k]'(plc_lt x k h3 hk)).add (itC x b))
  rw [layM_step k x b L h3 hk] at this
  exact this
theorem gr_drew {w w' : World} {r : Option Nat} (h : w.grownBy w' r) : w.grownBy w'.drew r := ⟨h.os, h.tape, h.output, h.size, h.block⟩
set_option maxRecDepth 100000 in
set_option maxHeartbeats 12800000 in
theorem lay_any (x : BitVec 64) (b : BitVec 16) (B g c cap : Nat) (L : List Cel) (h3 : 3 ≤ L.length) (hn : L.length ≤ 256) (w : World)
    (hg : GR.Blk w g 77 #[.slice (some ⟨c, 0, none⟩) L.length cap]) (ho : GR.Own celK w B (.slice (some ⟨c, 0, none⟩) L.length cap) L) :
    Calls Try.prog 38 #[.pointer (some ⟨g, 0, none⟩), .int .u64 (x.toNat : Int), .int .i16 b.toInt] w fun e w' => e = .returned (.tuple #[]) ∧ GR.Own celK w' B (.slice (some ⟨c, 0, none⟩) L.length cap) (layC x b L) ∧ w.grownBy w' (some c) := by
  have HO := Lib.hid ho
  have HG := Lib.hid hg
  have hne : g ≠ c := fun e => GR.own_blk_ne ho hg (by decide) (by simp [Value.ownBlock, e])
  have hcs := (ho.lt c (by simp [Value.ownBlock])).2
  clear ho hg
  go_enter Try.func38, Try.ntmps38
  go_wp2_with (go_at_call 60; refine (places_any x g _ _ cap h3 hn w HG.out).mono ?_; rintro e w1 ⟨rfl, hb⟩; have B1 := Lib.hid hb; clear hb)
  have HO1 := Lib.hid (HO.out.below B1.out)
  have G1 := Lib.hid (GR.grown_of_bl B1.out (some c))
  have HV := Lib.hid (show ∀ k : Nat, k < 3 → ∀ w, (Instr.index 50 (.agg (plcV L.length x)) (.int .i64 (k : Int))).run Try.prog w = .ok (.int .i64 (plc L.length x k : Int)) w from fun k hk w => run_index3 hk (plcV_get L.length x k hk) rfl w)
  obtain ⟨V, hV⟩ : ∃ V, V = plcV L.length x := ⟨_, rfl⟩
  rw [← hV] at HV ⊢
  clear hV
  go_loopw [14] (fun i w' => ∃ k : Nat, k ≤ 3 ∧ i = .int .i64 k ∧ Hid (GR.Own celK w' B (.slice (some ⟨c, 0, none⟩) L.length cap) (layM k x b L)) ∧ Hid (w.grownBy w' (some c))) (fun i _ => 3 - (intOf i).toNat)
  case atStart => exact ⟨0, by omega, rfl, Lib.hid (by rw [layM_zero]; exact HO1.out), G1⟩
  case round =>
    obtain ⟨k, hk, rfl, oo, gg⟩ := hrel
    by_cases hlt : k < 3
    · have i0 : (0 : Int) ≤ (k : Int) := by omega
      have i1 : (k : Int) < 3 := by omega
      have v0 := HV.out k hlt
      have hp := plc_lt x k h3 hlt
      have c0 : wr.cell? ⟨g, 0, none⟩ = some (.slice (some ⟨c, 0, none⟩) L.length cap) := (HG.out.grown gg.out (by simpa using hne)).cell 0
      have p0 : (0 : Int) ≤ (plc L.length x k : Int) := by omega
      have p1 : (plc L.length x k : Int) < (L.length : Int) := by omega
      obtain ⟨C, hC⟩ : ∃ C, C = L[plc L.length x k] := ⟨_, rfl⟩
      obtain ⟨⟨e0, e1, e2⟩, f0, f1, f2⟩ := cel_at oo.out (plc L.length x k) (by simpa using hp) C ((layM_here k x b L h3 hlt).trans hC.symm)
      obtain ⟨P, hP⟩ : ∃ P, P = plc L.length x k := ⟨_, rfl⟩
      rw [← hP] at v0 hp p0 p1 e0 e1 e2 f0 f1 f2
      have HP := Lib.hid hP
      have HC := Lib.hid hC
      clear hP hC
      go_wp2_with fail
      rw [i16_add, xor_64]
      obtain ⟨w2, hw2⟩ : ∃ w2, w2 = (wr.setCell ⟨c, P * 3, none⟩ (.int .i16 (C.n + b).toInt)).setCell ⟨c, P * 3 + 1, none⟩ (.int .u64 ((C.x ^^^ x).toNat : Int)) := ⟨_, rfl⟩
      have e3 : w2.cell? ⟨c, P * 3 + 2, none⟩ = some (.int .u32 (C.h.toNat : Int)) := by
        rw [hw2, World.cell?_setCell_other _ _ _ _ (by simp), World.cell?_setCell_other _ _ _ _ (by simp)]; exact e2
      have f3 : w2.frozen? ⟨c, P * 3 + 2, none⟩ = false := by rw [hw2]; simpa using f2
      rw [← hw2]
      have HW := Lib.hid hw2
      clear hw2 e0 e1 e2 f0 f1 f2
      go_region_with (go_at_call 61; refine (check_any x _).mono ?_; rintro e w' ⟨rfl, rfl⟩)
      all_goals
        rw [xor_32]
        go_wp2
        go_roundw
        case rel => exact ⟨k + 1, by omega, by simp, Lib.hid ((own_lay oo.out h3 hlt HP.out HC.out HW.out).drew), Lib.hid (gr_drew (GR.grown_step gg.out (by rw [HW.out]; exact grown_set3 _ _ _ _ _ _ _ _) (.inl rfl)))⟩
        case measure => simp [intOf]; omega
    · obtain rfl : k = 3 := by omega
      go_wp2
      go_end0
      exact ⟨rfl, oo.out, gg.out⟩
theorem add_any (x : BitVec 64) (B g c cap : Nat) (L : List Cel) (h3 : 3 ≤ L.length) (hn : L.length ≤ 256) (w : World)
    (hg : GR.Blk w g 77 #[.slice (some ⟨c, 0, none⟩) L.length cap]) (ho : GR.Own celK w B (.slice (some ⟨c, 0, none⟩) L.length cap) L) :
    Calls Try.prog 12 #[.pointer (some ⟨g, 0, none⟩), .int .u64 (x.toNat : Int)] w fun e w' => e = .returned (.tuple #[]) ∧ GR.Own celK w' B (.slice (some ⟨c, 0, none⟩) L.length cap) (layC x 1 L) ∧ w.grownBy w' (some c) := by
  have hl := lay_any x 1 B g c cap L h3 hn w hg ho
  go_enter Try.func12, Try.ntmps12
  go_wp2_with (go_at_call 38; refine (hl).mono ?_; rintro e w1 ⟨rfl, h1, h2⟩)
  go_end0
  exact ⟨rfl, h1, h2⟩
theorem take_any (x : BitVec 64) (B g c cap : Nat) (L : List Cel) (h3 : 3 ≤ L.length) (hn : L.length ≤ 256) (w : World)
    (hg : GR.Blk w g 77 #[.slice (some ⟨c, 0, none⟩) L.length cap]) (ho : GR.Own celK w B (.slice (some ⟨c, 0, none⟩) L.length cap) L) :
    Calls Try.prog 13 #[.pointer (some ⟨g, 0, none⟩), .int .u64 (x.toNat : Int)] w fun e w' => e = .returned (.tuple #[]) ∧ GR.Own celK w' B (.slice (some ⟨c, 0, none⟩) L.length cap) (layC x (-1) L) ∧ w.grownBy w' (some c) := by
  have hl := lay_any x (-1) B g c cap L h3 hn w hg ho
  rw [show (-1 : BitVec 16).toInt = -1 from by decide] at hl
  go_enter Try.func13, Try.ntmps13
  go_wp2_with (go_at_call 38; refine (hl).mono ?_; rintro e w1 ⟨rfl, h1, h2⟩)
  go_end0
  exact ⟨rfl, h1, h2⟩
end Go.Proofs.Ytpklkjekkbpeoaa
