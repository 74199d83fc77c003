/- DERIVED. copy over a row of one's own; From: a sketch of given cells. rises: items in order. SketchPeels: the walk of the law. (Several texts in one: SkFrom, SkRise, SkPeelsW.) -/
import Derived.Test.YtpklkjekkbpeoaaSkNew
import Derived.Test.YtpklkjekkbpeoaaSkSame
import Derived.Test.YtpklkjekkbpeoaaSkSoC
import Derived.Test.YtpklkjekkbpeoaaSkWorks
import Derived.Test.YtpklkjekkbpeoaaSkOneW
namespace Go.Proofs.Ytpklkjekkbpeoaa
open Go.RowKit
set_option linter.unusedVariables false
set_option linter.unusedSimpArgs false
attribute [local irreducible] mixN

/-- copy of as many elements as there are, each of s cells. -/
theorem run_copy_rows {P : Program} (w : World) (dT sT ty elem : TypeId) (g n dCap s : Nat) (a : Addr) (sCap : Nat) (cur : Array Value) (t : TypeId) (cs : List Value)
    (hu : P.underlying dT = some (.slice elem)) (hs : (P.info? elem).map (·.size) = some s)
    (hg : w.heap[g]? = some (.cells cur t (0, 0))) (hn : cs.length = n * s)
    (hsrc : ∀ j v, cs[j]? = some v → w.cell? (a.add j) = some v) (hfit : cs.length ≤ cur.size) (h1 : ∀ v ∈ cs, v.oneCell' = true) :
    (Builtin.copy_ #[dT, sT] ty #[.slice (some ⟨g, 0, none⟩) n dCap, .slice (some a) n sCap]).run P w =
      .ok (goInt n) (w.setRow g (cs ++ cur.toList.drop cs.length).toArray) := by
  have hl := run_loadCells_list (P := P) w a cs hsrc
  have hst := run_storeCells_at P g 0 t cs 0 cur w hg (by simpa using hfit) h1
  cases hq : P.info? elem with
  | none => simp [hq] at hs
  | some i =>
    have hi : i.size = s := by simpa [hq] using hs
    have hm : Nat.min n n = n := Nat.min_self n
    simp only [Nat.add_zero, List.take_zero, List.nil_append, Nat.zero_add] at hst
    simp [Builtin.copy_, run_underlying hu, Builtin.lenOf, Builtin.firstCells, sizeOf, typeInfo, hq, hi, hm, ← hn, hl, hst]
section
variable {P : Program} {ops : Array Oper} {rest : List Oper} {o : Oper} {a : Act} {Q : Exit → Act → World → Prop}
variable {α : Type} {K : GR.Kind α}
/-- copy(v, ys), v a row of one's own of the same length. -/
theorem copy_own {W : World} (hgd : o.guard = none) (s x : Operand) (t : TypeId) (ho : o.op = .call { callee := .builtin .copy, args := #[s, x], argTypes := #[t, t] })
    (ht : P.underlying t = some (.slice K.e)) (hi : (P.info? K.e).map (·.size) = some K.s) (B g n cap : Nat) (xs : List α) (hs : a.eval s = .slice (some ⟨g, 0, none⟩) n cap) (hxs : n = xs.length)
    (HO : GR.Own K W B (.slice (some ⟨g, 0, none⟩) n cap) xs) (A : Addr) (c : Nat) (ys : List α) (hx : a.eval x = .slice (some A) n c) (hn : n = ys.length) (hr : GR.Rd K W (some A) ys)
    (h : ∀ w', GR.Own K w' B (.slice (some ⟨g, 0, none⟩) n cap) ys → W.grownBy w' (some g) → wpList P ops Q rest (a.put o.dst (goInt n)) w') : wpList P ops Q (o :: rest) a W := by
  rcases HO.2 with ⟨hv, _⟩ | ⟨g', cap', cur, hv, hB, hg, h1, h2, h3, h4⟩
  · cases hv
  injection hv with e1 e2 e3
  injection e1 with e1
  injection e1 with e1
  subst e1 e3
  have hlen : (GR.cs K ys).length = n * K.s := by rw [GR.cs_length, hn]
  have hcap : n * K.s ≤ cap * K.s := Nat.mul_le_mul_right _ (by omega)
  have hsrc : ∀ j v, (GR.cs K ys)[j]? = some v → W.cell? (A.add j) = some v := by
    rcases Nat.eq_zero_or_pos ys.length with h0 | h0
    · have : GR.cs K ys = [] := List.length_eq_zero_iff.1 (by rw [hlen, hn, h0]; simp)
      rw [this]; intro j v hv; simp at hv
    · obtain ⟨ad, e, _, hc⟩ := hr.2.2 h0
      injection e with e
      subst e
      exact hc
  have hrun := run_copy_rows (P := P) W t t o.type K.e g n cap K.s A c cur K.e (GR.cs K ys) ht hi hg hlen hsrc (by omega) (GR.cs_one ys)
  refine wpList_plain hgd fun K' hK => ?_
  unfold Oper.wp execOp
  simp only [ho, resolve, invoke, builtin, Sem.run_bind, Sem.run_pure, Result.andThen_ok, List.map_toArray, List.map_cons, List.map_nil, hs, hx, hrun]
  refine hK _ _ (h _ ⟨by rw [hlen, hn], .inr ⟨g, cap, _, by rw [hn], hB, setRow_heap W g cur _ K.e (0, 0) hg, by omega, h2, ?_, ?_⟩⟩ ?_)
  · simp [hlen, h3]; omega
  · rw [← hn, ← hlen]; simp
  · exact ⟨rfl, rfl, rfl, by simp [World.setRow], fun k _ hk => by
      have : g ≠ k := fun e => hk (by rw [e])
      simp [World.setRow, Array.getElem?_modify, this]⟩
end
set_option maxRecDepth 100000 in
set_option maxHeartbeats 6400000 in
theorem from_any (A : Option Addr) (c0 : Nat) (L : List Cel) (h3 : 3 ≤ L.length) (hn : L.length ≤ 256) (w : World) (hr : GR.Rd celK w A L) :
    Calls Try.prog 20 #[.slice A L.length c0] w fun e w' => (∃ g, e = .returned (.tuple #[.pointer (some ⟨g, 0, none⟩), .int .i64 0]) ∧ w.heap.size ≤ g ∧ ∃ c cap, Skt w' w.heap.size g c cap L) ∧ Below w.heap.size w w' := by
  obtain ⟨ad, e0, _, _⟩ := hr.at_ 0 (by omega)
  subst e0
  have HR := Lib.hid hr
  have hnew := newS_any L.length h3 hn w
  clear hr
  go_enter Try.func20, Try.ntmps20
  go_wp2_with fail
  refine (hnew).mono ?_
  rintro e w1 ⟨⟨g, rfl, hgs, c, cap, hs⟩, hb⟩
  have SS := Lib.hid hs
  have BB := Lib.hid hb
  have c1 : w1.cell? ⟨g, 0, none⟩ = some (.slice (some ⟨c, 0, none⟩) L.length cap) := by have := hs.b.cell 0; rw [zL_length] at this; exact this
  have HO := Lib.hid (show GR.Own celK w1 w.heap.size (.slice (some ⟨c, 0, none⟩) L.length cap) (zL L.length) by have := hs.o; rw [zL_length] at this; exact this)
  clear hs hb hnew
  go_wp2_with (refine copy_own (K := celK) rfl (.tmp 18) (.tmp 19) 37 rfl Try.underlying37 (by kernel_rfl) w.heap.size c L.length cap (zL L.length) rfl (zL_length _).symm HO.out ad c0 L rfl rfl (HR.out.below BB.out) ?_; intro w2 ho hg; have O2 := Lib.hid ho; have G2 := Lib.hid hg; clear ho hg c1)
  go_ret2
  have hl := SS.out.laid (M := L) (zL_length _).symm (by rw [zL_length]; exact O2.out) G2.out
  exact ⟨⟨g, rfl, hgs, c, cap, hl⟩, Below.grown BB.out G2.out BB.out.size (fun b hb => by cases hb; exact SS.out.clt.1)⟩
theorem from_err (A : Option Addr) (c0 n : Nat) (h : n < 3 ∨ 256 < n) (w : World) : Calls Try.prog 20 #[.slice A n c0] w fun e w' => e = .returned (.tuple #[.pointer none, .int .i64 1]) ∧ w = w' := by
  have hnew := new_err n (by omega) w
  clear h
  go_enter Try.func20, Try.ntmps20
  go_wp2_with fail
  refine (hnew).mono ?_
  rintro e w1 ⟨rfl, rfl⟩
  go_wp2
  go_ret2
  exact ⟨rfl, rfl⟩
end Go.Proofs.Ytpklkjekkbpeoaa

namespace Go.Proofs.Ytpklkjekkbpeoaa
open Go.RowKit
set_option linter.unusedVariables false
set_option linter.unusedSimpArgs false
attribute [local irreducible] mixN

theorem srt_rises (m : List It) (i : Nat) (h : i + 1 < (srt m).length) : (srt m)[i].toNat ≤ (srt m)[i + 1].toNat := by
  have hp : (srt m).Pairwise fun x y => (!ltI y x) = true := by
    refine List.pairwise_mergeSort (fun a b c h1 h2 => ?_) (fun a b => ?_) m
    · simp only [Bool.not_eq_true', ltI_f] at *; omega
    · rcases Nat.le_total a.toNat b.toNat with h | h
      · simp [ltI_f.2 h]
      · simp [ltI_f.2 h]
  have := (List.pairwise_iff_getElem.1 hp) i (i + 1) (by omega) h (by omega)
  simpa [ltI_f] using this
set_option maxRecDepth 100000 in
set_option maxHeartbeats 6400000 in
theorem rises_any (A : Option Addr) (c : Nat) (l : List It) (w : World) (hl : GR.Rd itK w A l) (hs : ∀ i (h : i + 1 < l.length), l[i].toNat ≤ l[i + 1].toNat) :
    Calls Try.prog 21 #[.slice A l.length c] w fun e w' => e = .returned (.bool true) ∧ Below w.heap.size w w' := by
  have bl : l.length * 8 ≤ 140737488355328 := hl.max
  have HL := Lib.hid hl
  have HS := Lib.hid hs
  clear hl hs
  go_enter Try.func21, Try.ntmps21
  go_wp2_with fail
  go_loopw [3] (fun i w' => ∃ k : Nat, 1 ≤ k ∧ k ≤ l.length + 1 ∧ i = .int .i64 k ∧ Hid (Below w.heap.size w w')) (fun i _ => l.length + 1 - (intOf i).toNat)
  case atStart => exact ⟨1, Nat.le_refl _, by omega, rfl, Lib.hid (Below.refl _ _)⟩
  case round =>
    obtain ⟨W0, hw_⟩ : ∃ x : World, x = wr := ⟨_, rfl⟩
    subst hw_
    obtain ⟨k, h1, hk, rfl, hb⟩ := hrel
    by_cases hlt : k < l.length
    · have i0 : (0 : Int) ≤ (k : Int) := by omega
      have i1 : (k : Int) < (l.length : Int) := by omega
      have k2 : decide ((k : Int) < (l.length : Int)) = true := decide_eq_true i1
      obtain ⟨q, hq⟩ : ∃ q, q + 1 = k := ⟨k - 1, by omega⟩
      have e1 : (k : Int) - 1 = (q : Int) := by omega
      have i2 : (0 : Int) ≤ (q : Int) := by omega
      have i3 : (q : Int) < (l.length : Int) := by omega
      obtain ⟨ad, rfl, _, a0⟩ := it_at (HL.out.below hb.out) k hlt
      obtain ⟨bd, eb, _, b0⟩ := it_at (HL.out.below hb.out) q (by omega)
      injection eb with eb
      subst eb
      have hle := HS.out q (by omega)
      have hgk : l[k] = l[q + 1] := by subst hq; rfl
      rw [← hgk] at hle
      obtain ⟨x, hx⟩ : ∃ x, x = l[k] := ⟨_, rfl⟩
      obtain ⟨y, hy⟩ : ∃ y, y = l[q]'(by omega) := ⟨_, rfl⟩
      rw [← hx] at a0 hle
      rw [← hy] at b0 hle
      clear hx hy hgk hq
      have d0 := over_cell a0
      have d1 := over_cell b0
      have r1 : ¬ (x.toNat : Int) < (y.toNat : Int) := by omega
      have r2 : decide ((x.toNat : Int) < (y.toNat : Int)) = false := decide_eq_false r1
      have r3 : decide (x.toNat < y.toNat) = false := decide_eq_false (by omega)
      go_upto_region 4 with fail
      refine over_region (W := W0) (by kernel_rfl) (by kernel_rfl) (by repeat (first | exact Below.refl _ _ | refine bl_drewN ?_ _ | refine bl_drew ?_ | refine bl_alloc ?_ _)) ?_
      repeat (go_big_quiet_step (fail))
      refine wpQuiet_nil ?_
      intro _ hx_
      obtain ⟨x_, hx_⟩ := hx_
      subst hx_
      obtain ⟨w2, hb2⟩ := x_
      dsimp only
      have HB := Lib.hid (bl_then hb.out hb2)
      clear hb2 d0 d1 a0 b0
      go_wp2
      go_roundw
      case rel => exact ⟨k + 1, by omega, by omega, by go_num, HB⟩
      case measure => simp [intOf]; omega
    · have i1 : ¬ (k : Int) < (l.length : Int) := by omega
      go_wp2
      go_ret
      exact ⟨rfl, hb.out⟩
end Go.Proofs.Ytpklkjekkbpeoaa

namespace Go.Proofs.Ytpklkjekkbpeoaa
open Go.RowKit
set_option linter.unusedVariables false
set_option linter.unusedSimpArgs false
attribute [local irreducible] mixN arrW arrB

theorem peel_lens (L : List Cel) (h : L.length ≤ 256) : (peelN L.length L [] []).2.1.length + (peelN L.length L [] []).2.2.length ≤ L.length := by
  have := (peelN_says L.length L [] []).2.1
  simpa using this
theorem peels_law (L : List Cel) : zeroB (peelN L.length L [] []).1 = decide (layAll (-1) (layAll 1 (zL L.length) (srt (peelN L.length L [] []).2.1)) (srt (peelN L.length L [] []).2.2) = L) := by
  rw [layAll_perm (srt_perm _), layAll_perm (srt_perm _), Bool.eq_iff_iff, whole_iff, decide_eq_true_eq]
set_option maxRecDepth 100000 in
set_option maxHeartbeats 51200000 in
theorem peels_walk (A : Option Addr) (c : Nat) (L : List Cel) (w : World) (hl : GR.Rd celK w A L) :
    Calls Try.prog 6 #[.slice A L.length c] w fun e w' => e = .returned (.bool true) ∧ Below w.heap.size w w' := by
  obtain ⟨i0, hi0, hz0, hz1, hz2⟩ := info_parts cel_info
  have hmax : L.length * 24 ≤ 140737488355328 := hl.max
  have HL := Lib.hid hl
  clear hl
  go_enter Try.func6, Try.ntmps6
  go_wp2_with fail
  refine (works_any w).mono ?_
  rintro e w1 ⟨rfl, hb⟩
  have B1 := Lib.hid hb
  clear hb
  go_wp2_with (at_builtin; refine GR.app_twin (K := celK) rfl (.tmp 15) (.tmp 16) _ rfl Try.underlying37 hi0 hz0 hz1 hz2 rfl rfl A L.length c L rfl rfl (HL.out.below B1.out) (by show L.length * 24 ≤ _; omega) ?_; intro v2 w2 ho2 hb2; have B2 := Lib.hid (bl_then B1.out hb2); obtain ⟨A3, c3', rfl, _, hr2⟩ := ho2.rd' (by show L.length * 24 ≤ _; omega); have R2 := Lib.hid hr2; clear ho2 hb2 hr2)
  by_cases hbad : L.length < 3 ∨ 256 < L.length
  · have hbad_ := hbad
    refine (from_err A3 c3' L.length hbad w2).mono ?_
    rintro e w3 ⟨rfl, rfl⟩
    rcases Nat.lt_or_ge L.length 3 with h | h
    · have k1 : (L.length : Int) < 3 := by omega
      have k2 : decide ((L.length : Int) < 3) = true := decide_eq_true k1
      clear hbad hbad_
      go_wp2
      go_ret
      exact ⟨rfl, B2.out⟩
    · have k1 : ¬ (L.length : Int) < 3 := by omega
      have k2 : decide ((L.length : Int) < 3) = false := decide_eq_false k1
      have k3 : (256 : Int) < (L.length : Int) := by omega
      have k4 : decide ((256 : Int) < (L.length : Int)) = true := decide_eq_true k3
      clear hbad hbad_
      go_wp2
      go_ret
      exact ⟨rfl, B2.out⟩
  · have hn3 : 3 ≤ L.length := by omega
    have hn2 : L.length ≤ 256 := by omega
    clear hbad
    refine (from_any A3 c3' L hn3 hn2 w2 R2.out).mono ?_
    rintro e w3 ⟨⟨g1, rfl, hg1, c5, e5, hs⟩, hb⟩
    have S3 := Lib.hid hs
    have B3 := Lib.hid (bl_then B2.out hb)
    clear hs hb
    have k1 : ¬ (L.length : Int) < 3 := by omega
    have k2 : decide ((L.length : Int) < 3) = false := decide_eq_false k1
    have k3 : ¬ (256 : Int) < (L.length : Int) := by omega
    have k4 : decide ((256 : Int) < (L.length : Int)) = false := decide_eq_false k3
    have hpl := peel_any _ g1 c5 e5 L _ _ w3 S3.out (sort_any _ (by have := peel_lens L hn2; omega)) (sort_any _ (by have := peel_lens L hn2; omega))
    have hlaw := peels_law L
    have hlens : (srt (peelN L.length L [] []).2.1).length + (srt (peelN L.length L [] []).2.2).length ≤ L.length := by rw [srt_length, srt_length]; exact peel_lens L hn2
    obtain ⟨M, hM⟩ : ∃ M, M = srt (peelN L.length L [] []).2.1 := ⟨_, rfl⟩
    obtain ⟨N, hN⟩ : ∃ N, N = srt (peelN L.length L [] []).2.2 := ⟨_, rfl⟩
    obtain ⟨zb, hzb⟩ : ∃ zb, zb = zeroB (peelN L.length L [] []).1 := ⟨_, rfl⟩
    have hrm : ∀ i (h : i + 1 < M.length), M[i].toNat ≤ M[i + 1].toNat := by subst hM; exact srt_rises _
    have hrn : ∀ i (h : i + 1 < N.length), N[i].toNat ≤ N[i + 1].toNat := by subst hN; exact srt_rises _
    rw [← hM] at hpl hlaw hlens
    rw [← hN] at hpl hlaw hlens
    rw [← hzb] at hpl hlaw
    have HLAW := Lib.hid hlaw
    have HRM := Lib.hid hrm
    have HRN := Lib.hid hrn
    have HN2 := Lib.hid hn2
    obtain ⟨T, hT⟩ : ∃ T, T = M.length + N.length := ⟨_, rfl⟩
    have e4 : (M.length : Int) + (N.length : Int) = (T : Int) := by omega
    have k5 : ¬ (L.length : Int) < (T : Int) := by omega
    have k6 : decide ((L.length : Int) < (T : Int)) = false := decide_eq_false k5
    have k7 : decide (L.length < T) = false := decide_eq_false (by omega)
    have hTb : T ≤ 256 := by omega
    have hMb : M.length ≤ 256 ∧ N.length ≤ 256 := by omega
    clear hM hN hzb hlaw hrm hrn hT hlens
    go_wp2_with fail
    refine (hpl).mono ?_
    rintro e w4 ⟨A1, c1, A2, c2, rfl, o1, o2, hb⟩
    have RM := Lib.hid (o1.rd (by show M.length * 8 ≤ _; omega)).2.2
    have RN := Lib.hid (o2.rd (by show N.length * 8 ≤ _; omega)).2.2
    have B4 := Lib.hid (bl_then B3.out hb)
    have S4 := Lib.hid (S3.out.below hb)
    clear o1 o2 hb hpl S3 B3 B2 B1 R2
    go_wp2_with fail
    refine (newS_any L.length hn3 hn2 w4).mono ?_
    rintro e w5 ⟨⟨g3, rfl, hg3, c3, e3, hs⟩, hb⟩
    obtain ⟨BD, hBD⟩ : ∃ BD, BD = w4.heap.size := ⟨_, rfl⟩
    have D5' := Lib.hid (show Skt w5 BD g3 c3 e3 (zL L.length) by rw [hBD]; exact hs)
    have B5 := Lib.hid hb
    have S5 := Lib.hid (S4.out.below hb)
    have qd := Lib.hid (show w4.heap.size ≤ BD by omega)
    clear hs hb S4 hBD
    go_wp2_with fail
    refine (rises_any A1 c1 M w5 (RM.out.below B5.out) HRM.out).mono ?_
    rintro e w6 ⟨rfl, hb⟩
    have B6 := Lib.hid (bl_then B5.out hb)
    have S6 := Lib.hid (S5.out.below hb)
    have D6 := Lib.hid (D5'.out.below hb)
    clear hb S5 B5 D5'
    go_wp2_with fail
    refine (rises_any A2 c2 N w6 (RN.out.below B6.out) HRN.out).mono ?_
    rintro e w7 ⟨rfl, hb⟩
    have B7 := Lib.hid (bl_then B6.out hb)
    have S7 := Lib.hid (S6.out.below hb)
    have D7 := Lib.hid (D6.out.below hb)
    clear hb S6 B6 D6
    go_wp2_with fail
    refine (cells_any _ g1 c5 e5 L w7 S7.out).mono ?_
    rintro e w8 ⟨dU, fU, rfl, oU, hb⟩
    have B8 := Lib.hid (bl_then B7.out hb)
    have D8 := Lib.hid (D7.out.below hb)
    have RU := Lib.hid (oU.rd (by show L.length * 24 ≤ _; omega)).2.2
    clear hb S7 B7 D7 oU
    have hsm := sameCells_any (some ⟨dU, 0, none⟩) A fU c L L w8 RU.out ((HL.out.below B4.out).below B8.out)
    rw [show decide (L = L) = true from by simp] at hsm
    go_wp2_with fail
    refine (hsm).mono ?_
    rintro e w9 ⟨rfl, hb⟩
    have B9 := Lib.hid (bl_then B8.out hb)
    have D5 := Lib.hid (D8.out.below hb)
    clear hb hsm RU B8 D8 k1 k2 k3 k4 k5 k6 k7 e4
    go_wp2_with fail
    go_loopw [10] (fun i w' => ∃ k : Nat, k ≤ M.length ∧ i = .int .i64 (k : Int) ∧ Hid (Skt w' BD g3 c3 e3 (layAll 1 (zL L.length) (M.take k))) ∧ Hid (Below w4.heap.size w4 w')) (fun i _ => M.length - (intOf i).toNat)
    case atStart => exact ⟨0, Nat.zero_le _, rfl, (by rw [List.take_zero, layAll_nil]; exact D5), B9⟩
    case round =>
      obtain ⟨W10, hw_⟩ : ∃ x : World, x = wr := ⟨_, rfl⟩
      subst hw_
      obtain ⟨k, hk, rfl, sd, bb⟩ := hrel
      by_cases hlt : k < M.length
      · have i0 : (0 : Int) ≤ (k : Int) := by omega
        have i1 : (k : Int) < (M.length : Int) := by omega
        obtain ⟨ad, rfl, _, a0⟩ := it_at (RM.out.below bb.out) k hlt
        have hlay := lay_next 1 (zL L.length) M k hlt
        obtain ⟨x, hx⟩ : ∃ x, x = M[k] := ⟨_, rfl⟩
        rw [← hx] at a0 hlay
        clear hx
        have ha := add_s x sd.out
        rw [hlay] at ha
        clear hlay
        go_wp2_with (go_at_call 12; refine (ha).mono ?_; rintro e w7 ⟨rfl, hs, hg⟩; have sd7 := Lib.hid hs; have bb7 := Lib.hid (bl_laid bb.out sd.out qd.out hg); clear hs hg)
        go_roundw
        case rel => exact ⟨k + 1, by omega, by go_num, sd7, bb7⟩
        case measure => simp [intOf]; omega
      · obtain rfl : k = M.length := by omega
        have i1 : ¬ (M.length : Int) < (M.length : Int) := by omega
        rw [List.take_length] at sd
        go_wp2_with fail
        go_loopw [11] (fun i w' => ∃ k : Nat, k ≤ N.length ∧ i = .int .i64 (k : Int) ∧ Hid (Skt w' BD g3 c3 e3 (layAll (-1) (layAll 1 (zL L.length) M) (N.take k))) ∧ Hid (Below w4.heap.size w4 w')) (fun i _ => N.length - (intOf i).toNat)
        case atStart => exact ⟨0, Nat.zero_le _, rfl, (by rw [List.take_zero, layAll_nil]; exact sd), bb⟩
        case round =>
          obtain ⟨W11, hw_⟩ : ∃ x : World, x = wr := ⟨_, rfl⟩
          subst hw_
          obtain ⟨k, hk, rfl, sd, bb⟩ := hrel
          by_cases hlt : k < N.length
          · have i0 : (0 : Int) ≤ (k : Int) := by omega
            have i1 : (k : Int) < (N.length : Int) := by omega
            obtain ⟨ad, rfl, _, a0⟩ := it_at (RN.out.below bb.out) k hlt
            have hlay := lay_next (-1) (layAll 1 (zL L.length) M) N k hlt
            obtain ⟨x, hx⟩ : ∃ x, x = N[k] := ⟨_, rfl⟩
            rw [← hx] at a0 hlay
            clear hx
            have ha := take_s x sd.out
            rw [hlay] at ha
            clear hlay
            go_wp2_with (go_at_call 13; refine (ha).mono ?_; rintro e w7 ⟨rfl, hs, hg⟩; have sd7 := Lib.hid hs; have bb7 := Lib.hid (bl_laid bb.out sd.out qd.out hg); clear hs hg)
            go_roundw
            case rel => exact ⟨k + 1, by omega, by go_num, sd7, bb7⟩
            case measure => simp [intOf]; omega
          · obtain rfl : k = N.length := by omega
            have i1 : ¬ (N.length : Int) < (N.length : Int) := by omega
            rw [List.take_length] at sd
            obtain ⟨X, hX⟩ : ∃ X, X = layAll (-1) (layAll 1 (zL L.length) M) N := ⟨_, rfl⟩
            rw [← hX] at sd
            have HXL := Lib.hid (show X.length = L.length by rw [hX, layAll_length, layAll_length, zL_length])
            have HLW := Lib.hid (show zb = decide (X = L) by rw [hX]; exact HLAW.out)
            clear hX
            have hcD := cells_any BD g3 c3 e3 X W11 sd.out
            go_wp2_with fail
            refine (hcD).mono ?_
            rintro e w9 ⟨dD, fD, rfl, oD, hb⟩
            have OD9 := Lib.hid oD
            have bb9 := Lib.hid (bl_then bb.out hb)
            clear hb oD hcD
            have RD9 := Lib.hid (OD9.out.rd (by show X.length * 24 ≤ _; have := HXL.out; have := HN2.out; omega)).2.2
            have RL9 := Lib.hid ((HL.out.below B4.out).below bb9.out)
            have hsm := sameCells_any (some ⟨dD, 0, none⟩) A fD c X L w9 RD9.out RL9.out
            rw [← HLW.out] at hsm
            go_wp2_with (go_at_call 22; refine (hsm).mono ?_; rintro e w10 ⟨rfl, hb⟩; have bb10 := Lib.hid (bl_then bb9.out hb); clear hb)
            go_ret
            exact ⟨ret_bool (by simp), bl_then B4.out bb10.out⟩
end Go.Proofs.Ytpklkjekkbpeoaa
