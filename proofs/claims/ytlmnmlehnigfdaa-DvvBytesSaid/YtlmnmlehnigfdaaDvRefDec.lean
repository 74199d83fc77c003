/- DERIVED. The document's Decode of a state. -/
import Derived.Test.YtlmnmlehnigfdaaDvRefEnc
import Derived.Test.YtlmnmlehnigfdaaDvRefTake
namespace Go.Proofs.Ytlmnmlehnigfdaa
open Go.RowKit Go.Lib
set_option linter.unusedVariables false
set_option linter.unusedSimpArgs false

theorem dec_no {b : List UInt8} (h : decB b = false) : decA b = [] ∧ decL b = [] ∧ decE b = 110 := by
  simp [decA, decL, decE, h]
theorem dec_si {b : List UInt8} (h : decB b = true) : decA b = (takeV b ⟨0, 0⟩).1 ∧ decL b = srL (takeS b).1 ∧ decE b = 0 := by
  rw [decA, decL, decE, if_pos h, if_pos h, if_pos h]
  exact ⟨rfl, rfl, rfl⟩
theorem end_iff {b : List UInt8} {st : RS} (hn : st.n ≤ b.length) : endP b st = 0 ↔ st.e = 0 ∧ st.n = b.length := by
  unfold endP
  split
  · rename_i h
    constructor
    · intro h1; exact absurd h1 (by decide)
    · rintro ⟨_, h2⟩; omega
  · rename_i h
    constructor
    · intro h1; exact ⟨h1, by omega⟩
    · rintro ⟨h1, _⟩; exact h1
theorem refEncode_at (A C : Option Addr) (n c m d B : Nat) (a : List Dot) (l : List Sib) (w : World) (ho : GR.Own dotK w B (.slice A n c) a) (hs : GR.Own sibK w B (.slice C m d) l) (ha : a.length ≤ 64) (hl : l.length ≤ 64) (na : ∀ d ∈ a, DotIn d) (nl : ∀ x ∈ l, DotIn x.d) :
    Calls Try.prog 21 #[.agg #[.slice A n c, .slice C m d]] w fun e w' => e = .returned (.tuple #[.string (encT a l), .int .i64 (encE a l)]) ∧ Below w.heap.size w w' := by
  obtain ⟨e1, _, r1⟩ := ho.rd (by show a.length * 16 ≤ _; omega)
  obtain ⟨e2, _, r2⟩ := hs.rd (by show l.length * 40 ≤ _; omega)
  subst e1 e2
  exact refEncode_any A C c d a l w r1 r2 (fun d hd => (na d hd).2.2.1) (fun x hx => (nl x hx).2.2.1) (fun d hd => ⟨(na d hd).1, (na d hd).2.1⟩) (fun x hx => ⟨(nl x hx).1, (nl x hx).2.1⟩)

set_option maxRecDepth 100000 in
set_option maxHeartbeats 12800000 in
theorem refDecode_any (b : ByteArray) (w : World) (hb : b.size ≤ 140737488355328) :
    Calls Try.prog 24 #[.string b] w fun e w' => ∃ v1 v2, e = .returned (.tuple #[.agg #[v1, v2], .int .i64 (decE b.data.toList)]) ∧ OwnS w' w.heap.size v1 v2 (decA b.data.toList) (decL b.data.toList) ∧ Below w.heap.size w w' := by
  obtain ⟨a, ha⟩ : ∃ a, a = (takeV b.data.toList ⟨0, 0⟩).1 := ⟨_, rfl⟩
  obtain ⟨l, hl⟩ : ∃ l, l = srL (takeS b.data.toList).1 := ⟨_, rfl⟩
  have hal : a.length ≤ 64 := by rw [ha]; exact takeV_len _ _
  have hll : l.length ≤ 64 := by rw [hl, srL_len]; exact takeS_len _
  have HAI : Hid (∀ d ∈ a, DotIn d) := Lib.hid (by rw [ha]; exact takeV_in _ _)
  have HLI : Hid (∀ x ∈ l, DotIn x.d) := Lib.hid (fun x hx => by
    rw [hl] at hx
    obtain ⟨y, hy, rfl⟩ := List.mem_map.1 hx
    exact (takeS_in _ y hy).1)
  have HB : Hid (decB b.data.toList = (decide ((takeS b.data.toList).2.e = 0 ∧ (takeS b.data.toList).2.n = b.data.toList.length) && staB a l && decide (encS a l = b.data.toList))) := Lib.hid (by rw [dec_doc, ← ha, ← hl])
  have HY : Hid (decB b.data.toList = true → decA b.data.toList = a ∧ decL b.data.toList = l ∧ decE b.data.toList = 0) := Lib.hid (fun h => by rw [ha, hl]; exact dec_si h)
  have HA := Lib.hid ha
  have HL := Lib.hid hl
  clear ha hl
  go_enter Try.func24, Try.ntmps24
  go_wp2_with fail
  obtain ⟨W1, hW1⟩ : ∃ W1 : World, W1 = (w.alloc (.cells #[.slice none 0 0, .slice none 0 0] 25)).alloc (.cells #[.string b, .int .i64 0, .int .i64 0] 91) := ⟨_, rfl⟩
  rw [← hW1]
  have LW : Hid (Below w.heap.size w W1) := Lib.hid (by rw [hW1]; exact (by repeat (first | exact Below.refl _ _ | refine bl_drewN ?_ _ | refine bl_drew ?_ | refine bl_alloc ?_ _)))
  have X1 : Hid (GR.Blk W1 w.heap.size 25 #[.slice none 0 0, .slice none 0 0]) := Lib.hid (by rw [hW1]; exact (GR.Blk.new _ _ _).alloc _)
  have R1 : Hid (Rdd W1 (w.heap.size + 1) b ⟨0, 0⟩) := Lib.hid ⟨by rw [hW1]; exact new_at _ _ _ (by simp), Nat.zero_le _⟩
  clear hW1
  refine (stake_any (w.heap.size + 1) b W1 R1.out hb).mono ?_
  rintro e w2 ⟨v1, v2, rfl, o2, h2, g2⟩
  rw [← HA.out, ← HL.out] at o2
  obtain ⟨A, n, c, rfl⟩ := own_slice o2.d (by show a.length * 16 ≤ _; omega)
  obtain ⟨C, m, d, rfl⟩ := own_slice o2.s (by show l.length * 40 ≤ _; omega)
  have R2 := Lib.hid h2
  have O2 := Lib.hid (o2.base LW.out.size)
  have B2 := Lib.hid (LW.out.trans ((chg_g g2).below LW.out.size (fun k e => by subst e; exact Nat.le_succ _)))
  have X2 := Lib.hid (X1.out.grown g2 (fun e => by injection e with e; omega))
  clear h2 g2 o2
  go_wp2_with fail
  obtain ⟨W3, hW3⟩ : ∃ W3 : World, W3 = w2.alloc (.cells #[.slice A n c, .slice C m d] 25) := ⟨_, rfl⟩
  rw [← hW3]
  have L3 : Hid (Below w2.heap.size w2 W3) := Lib.hid (by rw [hW3]; exact (by repeat (first | exact Below.refl _ _ | refine bl_drewN ?_ _ | refine bl_drew ?_ | refine bl_alloc ?_ _)))
  have S3 : Hid (GR.Blk W3 w2.heap.size 25 #[.slice A n c, .slice C m d]) := Lib.hid (by rw [hW3]; exact GR.Blk.new _ _ _)
  clear hW3
  refine (refEncode_at A C n c m d w.heap.size a l _ (O2.out.d.below L3.out) (O2.out.s.below L3.out) hal hll HAI.out HLI.out).mono ?_
  rintro e w4 ⟨rfl, hb4⟩
  have L4 := Lib.hid (bl_then L3.out hb4)
  have S4 := Lib.hid (S3.out.below hb4 S3.out.lt)
  have R4 := Lib.hid (R2.out.below L4.out)
  clear hb4
  obtain ⟨z, hz⟩ : ∃ z, endP b.data.toList (takeS b.data.toList).2 = z := ⟨_, rfl⟩
  have HZ := Lib.hid hz
  obtain ⟨x, hx⟩ : ∃ x, x = encE a l := ⟨_, rfl⟩
  obtain ⟨t, ht⟩ : ∃ t, t = encT a l := ⟨_, rfl⟩
  have HX := Lib.hid hx
  have HT := Lib.hid ht
  rw [← hx, ← ht]
  have HEI : Hid (z = 0 ↔ (takeS b.data.toList).2.e = 0 ∧ (takeS b.data.toList).2.n = b.data.toList.length) := Lib.hid (by rw [← hz]; exact end_iff R2.out.2)
  clear hz hx ht
  go_wp2_with fail
  refine (dend_at (w.heap.size + 1) b _ z _ R4.out HZ.out).mono ?_
  rintro e w5 ⟨rfl, hd5⟩
  have L5 := Lib.hid (bl_then L4.out (hd5.below _))
  have S5 := Lib.hid (S4.out.below (hd5.below _) S4.out.lt)
  have X5 := Lib.hid (X2.out.below L5.out X2.out.lt)
  have O5 := Lib.hid (O2.out.below L5.out)
  have B5 := Lib.hid (bl_then B2.out L5.out)
  clear hd5
  have hrs : w.heap.size ≠ w2.heap.size := Nat.ne_of_lt X2.out.lt
  have r0 : w5.cell? ⟨w.heap.size, 0, none⟩ = some (.slice none 0 0) := X5.out.cell 0
  have r1 : w5.cell? ⟨w.heap.size, 1, none⟩ = some (.slice none 0 0) := X5.out.cell 1
  have r2 := X5.out.frozen 0
  have r3 := X5.out.frozen 1
  have m0 : w5.cell? ⟨w2.heap.size, 0, none⟩ = some (.slice A n c) := S5.out.cell 0
  have m1 : w5.cell? ⟨w2.heap.size, 1, none⟩ = some (.slice C m d) := S5.out.cell 1
  have BF : ∀ u v : Value, Below w.heap.size w ((w5.setCell ⟨w.heap.size, 0, none⟩ u).setCell ⟨w.heap.size, 1, none⟩ v) := fun u v => (B5.out.setCell (p := ⟨w.heap.size, 0, none⟩) (Nat.le_refl _) _).setCell (p := ⟨w.heap.size, 1, none⟩) (Nat.le_refl _) _
  have HBF := Lib.hid BF
  clear BF
  by_cases h0 : z = 0
  · by_cases h1 : staB a l = true
    · have hx0 : x = 0 := by rw [HX.out, encE, h1]; rfl
      have ht0 : t.data.toList = encS a l := by rw [HT.out, encT, h1]; simp
      by_cases h2 : encS a l = b.data.toList
      · have hB : decB b.data.toList = true := by rw [HB.out, h1, decide_eq_true h2, decide_eq_true (HEI.out.1 h0)]; rfl
        have HV := Lib.hid (HY.out hB)
        have q1 : (t.toList == b.toList) = true := by
          have : t = b := by apply ByteArray.ext; apply Array.toList_inj.1; rw [ht0]; exact h2
          rw [this]; simp
        have OF : Hid (OwnS ((w5.setCell ⟨w.heap.size, 0, none⟩ (.slice A n c)).setCell ⟨w.heap.size, 1, none⟩ (.slice C m d)) w.heap.size (.slice A n c) (.slice C m d) a l) := Lib.hid ⟨own_farI (own_farI O5.out.d X5.out 0 _ (by decide)) (X5.out.set_ 0 _) 1 _ (by decide), own_farI (own_farI O5.out.s X5.out 0 _ (by decide)) (X5.out.set_ 0 _) 1 _ (by decide)⟩
        subst h0 hx0
        clear h1 h2 hB ht0
        go_wp2
        exact bodyPost_ret (v := .tuple #[.agg #[.slice A n c, .slice C m d], .int .i64 0]) (by simp [results, Try.results24, go_sem, r0, r1, r2, r3, hrs, m0, m1]) rfl ⟨_, _, by rw [HV.out.2.2], by rw [HV.out.1, HV.out.2.1]; exact OF.out, HBF.out _ _⟩
      · have HV := Lib.hid (dec_no (show decB b.data.toList = false by rw [HB.out, decide_eq_false h2]; simp))
        have q1 : (t.toList == b.toList) = false := by
          rw [beq_eq_false_iff_ne]
          intro e
          rw [ByteArray.toList_eq, ByteArray.toList_eq] at e
          exact h2 (ht0.symm.trans e)
        subst h0 hx0
        clear h1 h2 ht0
        go_wp2
        exact bodyPost_ret (v := .tuple #[.agg #[.slice none 0 0, .slice none 0 0], .int .i64 110]) (by simp [results, Try.results24, go_sem, r0, r1, r2, r3, hrs]) rfl ⟨_, _, by rw [HV.out.2.2], by rw [HV.out.1, HV.out.2.1]; exact ⟨GR.Own.nil _ _ _, GR.Own.nil _ _ _⟩, HBF.out _ _⟩
    · have h1' : staB a l = false := by simpa using h1
      have HV := Lib.hid (dec_no (show decB b.data.toList = false by rw [HB.out, h1']; simp))
      have hx0 : x = 110 := by rw [HX.out, encE, h1']; rfl
      subst h0 hx0
      clear h1 h1'
      go_wp2
      exact bodyPost_ret (v := .tuple #[.agg #[.slice none 0 0, .slice none 0 0], .int .i64 110]) (by simp [results, Try.results24, go_sem, r0, r1, r2, r3, hrs]) rfl ⟨_, _, by rw [HV.out.2.2], by rw [HV.out.1, HV.out.2.1]; exact ⟨GR.Own.nil _ _ _, GR.Own.nil _ _ _⟩, HBF.out _ _⟩
  · have HV := Lib.hid (dec_no (show decB b.data.toList = false by rw [HB.out, decide_eq_false (fun h => h0 (HEI.out.2 h))]; simp))
    have q1 : (z != 0) = true := by simpa using h0
    have q2 : (z == 0) = false := by simpa using h0
    have q3 : decide (z = 0) = false := by simpa using h0
    clear h0
    go_wp2
    exact bodyPost_ret (v := .tuple #[.agg #[.slice none 0 0, .slice none 0 0], .int .i64 110]) (by simp [results, Try.results24, go_sem, r0, r1, r2, r3, hrs]) rfl ⟨_, _, by rw [HV.out.2.2], by rw [HV.out.1, HV.out.2.1]; exact ⟨GR.Own.nil _ _ _, GR.Own.nil _ _ _⟩, HBF.out _ _⟩
end Go.Proofs.Ytlmnmlehnigfdaa
