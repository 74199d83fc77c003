/- DERIVED. The document's Reader: so many bytes, one byte, a number to the base 128, a text, the error, the end. -/
import Derived.Test.YtlmnmlehnigfdaaRdW
namespace Go.Proofs.Ytlmnmlehnigfdaa
open Go.RowKit Go.Lib
set_option linter.unusedVariables false
set_option linter.unusedSimpArgs false

/-- The document's Reader in block g. -/
def Rdd (w : World) (g : Nat) (b : ByteArray) (s : RS) : Prop := GR.Blk w g 91 #[.string b, .int .i64 s.n, .int .i64 s.e] ∧ s.n ≤ b.data.toList.length
theorem Rdd.below {w w' : World} {g : Nat} {b : ByteArray} {s : RS} (h : Rdd w g b s) (hb : Below w.heap.size w w') : Rdd w' g b s := ⟨h.1.below hb h.1.lt, h.2⟩
theorem Rdd.drewN {w : World} {g : Nat} {b : ByteArray} {s : RS} (h : Rdd w g b s) (n : Nat) : Rdd (w.drewN n) g b s := ⟨h.1.drewN n, h.2⟩
def failS (s : RS) (x : Int) : RS := if s.e = 0 then ⟨s.n, x⟩ else s
theorem failS_n (s : RS) (x : Int) : (failS s x).n = s.n := by unfold failS; split <;> rfl
theorem dfail_any (g : Nat) (b : ByteArray) (s : RS) (x : Int) (w : World) (h : Rdd w g b s) :
    Calls Try.prog 102 #[.pointer (some ⟨g, 0, none⟩), .int .i64 x] w fun e w' => e = .returned (.tuple #[]) ∧ Rdd w' g b (failS s x) ∧ w.grownBy w' (some g) := by
  have c2 : w.cell? ⟨g, 2, none⟩ = some (.int .i64 s.e) := h.1.cell 2
  have d2 := h.1.frozen 2
  have H := Lib.hid h
  clear h
  by_cases he : s.e = 0
  · have HP : Hid (failS s x = ⟨s.n, x⟩) := Lib.hid (by rw [failS, if_pos he])
    rw [he] at c2
    clear he
    go_enter Try.func102, Try.ntmps102
    go_wp2
    go_end0
    rw [HP.out]
    exact ⟨rfl, ⟨by exact H.out.1.set_ 2 _, H.out.2⟩, grown_set 2 _⟩
  · have HP : Hid (failS s x = s) := Lib.hid (by rw [failS, if_neg he])
    have e1 : decide (s.e = 0) = false := by simpa using he
    have e2 : (s.e == 0) = false := by simpa using he
    clear he
    go_enter Try.func102, Try.ntmps102
    go_wp2
    go_end0
    rw [HP.out]
    exact ⟨rfl, H.out, grown_refl w _⟩
theorem dFail_any (g : Nat) (b : ByteArray) (s : RS) (x : Int) (w : World) (h : Rdd w g b s) :
    Calls Try.prog 99 #[.pointer (some ⟨g, 0, none⟩), .int .i64 x] w fun e w' => e = .returned (.tuple #[]) ∧ Rdd w' g b (failS s x) ∧ w.grownBy w' (some g) := by
  have H := Lib.hid h
  clear h
  go_enter Try.func99, Try.ntmps99
  go_wp2_with fail
  refine (dfail_any g b s x _ H.out).mono ?_
  rintro e w1 ⟨rfl, h1, g1⟩
  have H1 := Lib.hid h1
  have G1 := Lib.hid g1
  clear h1 g1
  go_wp2
  go_end0
  exact ⟨rfl, H1.out, G1.out⟩

set_option maxRecDepth 100000 in
theorem draw_any (g : Nat) (b : ByteArray) (k : Nat) (s : RS) (w : World) (h : Rdd w g b s) (hb : b.size ≤ 140737488355328) (hk : k ≤ 140737488355328) :
    Calls Try.prog 103 #[.pointer (some ⟨g, 0, none⟩), .int .i64 k] w fun e w' => e = .returned (.string ⟨(rdR b.data.toList k s).1.toArray⟩) ∧ Rdd w' g b (rdR b.data.toList k s).2 ∧ w.grownBy w' (some g) := by
  obtain ⟨n, er⟩ := s
  have c0 : w.cell? ⟨g, 0, none⟩ = some (.string b) := h.1.cell 0
  have c1 : w.cell? ⟨g, 1, none⟩ = some (.int .i64 n) := h.1.cell 1
  have H := Lib.hid h
  have hn : n ≤ b.size := h.2
  have l0 : decide ((k : Int) < 0) = false := by simp
  have l2 : IntKind.i64.wrap ((b.size : Int) - (n : Int)) = (b.size : Int) - (n : Int) := IntWalk.i64_in _ (by omega)
  by_cases hl : b.size - n < k
  · have l1 : decide ((b.size : Int) - (n : Int) < (k : Int)) = true := by simp; omega
    have HP : Hid (rdR b.data.toList k ⟨n, er⟩ = ([], failS ⟨n, er⟩ 10)) := Lib.hid (by
      rw [rdR, failS]
      by_cases he : er = 0
      · rw [if_pos he, if_pos he, if_pos (show b.data.toList.length - n < k from hl)]
      · rw [if_neg he, if_neg he])
    have HE : Hid ((failS ⟨n, er⟩ 10).e ≠ 0) := Lib.hid (by
      rw [failS]
      by_cases he : er = 0
      · rw [if_pos he]; show (10 : Int) ≠ 0; decide
      · rw [if_neg he]; exact he)
    clear hl h
    go_enter Try.func103, Try.ntmps103
    go_wp2
    go_quiet (fail)
    go_wp2_with fail
    refine (dfail_any g b ⟨n, er⟩ 10 _ (H.out.drewN _)).mono ?_
    rintro e w1 ⟨rfl, h1, g1⟩
    have H1 := Lib.hid h1
    have G1 := Lib.hid (grown_trans (grown_drewN (grown_refl w _) _) g1)
    obtain ⟨x, hx⟩ : ∃ x, x = (failS ⟨n, er⟩ 10).e := ⟨_, rfl⟩
    have y0 : w1.cell? ⟨g, 2, none⟩ = some (.int .i64 x) := by rw [hx]; exact h1.1.cell 2
    have hx0 : x ≠ 0 := by rw [hx]; exact HE.out
    have q1 : (x != 0) = true := by simpa using hx0
    have q2 : decide (x = 0) = false := by simpa using hx0
    clear h1 g1 hx hx0
    go_wp2
    go_ret
    rw [HP.out]
    exact ⟨rfl, H1.out, G1.out⟩
  · have l1 : decide ((b.size : Int) - (n : Int) < (k : Int)) = false := by simp; omega
    by_cases he : er = 0
    · subst he
      have HP : Hid (rdR b.data.toList k ⟨n, 0⟩ = ((b.data.toList.drop n).take k, ⟨n + k, 0⟩)) := Lib.hid (by rw [rdR, if_pos rfl, if_neg (show ¬ b.data.toList.length - n < k from hl)])
      have c2 : w.cell? ⟨g, 2, none⟩ = some (.int .i64 0) := h.1.cell 2
      have f1 := h.1.frozen 1
      have l3 : IntKind.i64.wrap ((n : Int) + (k : Int)) = (n : Int) + (k : Int) := IntWalk.i64_in _ (by omega)
      have l4 : (0 : Int) ≤ (n : Int) + (k : Int) := by omega
      have l5 : (n : Int) + (k : Int) ≤ (b.size : Int) := by omega
      have l6 : (n : Int) ≤ (n : Int) + (k : Int) := by omega
      have l7 : ((n : Int) + (k : Int)).toNat = n + k := by omega
      have HX := Lib.hid (ext_str b n k)
      clear hl h
      go_enter Try.func103, Try.ntmps103
      go_wp2
      go_quiet (fail)
      go_wp2
      go_quiet (fail)
      go_wp2
      go_ret
      rw [HP.out]
      exact ⟨by rw [HX.out]; rfl, ⟨by exact (H.out.1.drewN _).set_ 1 _, by show n + k ≤ b.size; omega⟩, grown_trans (grown_drewN (grown_refl w _) _) (grown_set 1 _)⟩
    · have HP : Hid (rdR b.data.toList k ⟨n, er⟩ = ([], ⟨n, er⟩)) := Lib.hid (by rw [rdR, if_neg he])
      have c2 : w.cell? ⟨g, 2, none⟩ = some (.int .i64 er) := h.1.cell 2
      have q1 : (er != 0) = true := by simpa using he
      have q2 : decide (er = 0) = false := by simpa using he
      clear hl h he
      go_enter Try.func103, Try.ntmps103
      go_wp2
      go_quiet (fail)
      go_wp2
      go_ret
      rw [HP.out]
      exact ⟨rfl, H.out.drewN _, grown_drewN (grown_refl w _) _⟩

/-- The number of one byte, or of none. -/
theorem whole_any (l : List UInt8) (x : UInt8) (hx : x = l.headD 0) (hl : l.length ≤ 1) (w : World) :
    Calls Try.prog 104 #[.string ⟨l.toArray⟩] w fun e w' => e = .returned (.int .u64 x.toNat) ∧ w = w' := by
  subst hx
  match l, hl with
  | [], _ =>
    go_enter Try.func104, Try.ntmps104
    go_wp2
    go_loopw [3, 4] (fun v i w' => v = .int .u64 0 ∧ i = .int .i64 0 ∧ w' = w) (fun _ _ _ => 0)
    case atStart => exact ⟨rfl, rfl, rfl⟩
    case round =>
      obtain ⟨rfl, rfl, rfl⟩ := hrel
      go_wp2
      go_ret
      exact ⟨rfl, rfl⟩
  | [c], _ =>
    have hc := c.toNat_lt
    go_enter Try.func104, Try.ntmps104
    go_wp2
    go_loopw [3, 4] (fun v i w' => ∃ k : Nat, k ≤ 1 ∧ i = .int .i64 k ∧ v = .int .u64 (if k = 0 then 0 else (c.toNat : Int)) ∧ w' = w) (fun _ i _ => 1 - (intOf i).toNat)
    case atStart => exact ⟨0, by omega, rfl, rfl, rfl⟩
    case round =>
      obtain ⟨k, hk, rfl, rfl, rfl⟩ := hrel
      by_cases h0 : k = 0
      · subst h0
        go_wp2
        go_roundw
        case rel => exact ⟨1, by omega, rfl, by
          show Value.int .u64 (IntKind.u64.wrap (IntKind.u64.wrap (c.toNat : Int))) = Value.int .u64 (c.toNat : Int)
          rw [IntWalk.u64_in (c.toNat : Int) (by omega), IntWalk.u64_in _ (by omega)], by first | rfl | trivial⟩
        case measure => simp [intOf]
      · obtain rfl : k = 1 := by omega
        go_wp2
        go_ret
        exact ⟨rfl, rfl⟩
theorem dbyte_any (g : Nat) (b : ByteArray) (s : RS) (w : World) (h : Rdd w g b s) (hb : b.size ≤ 140737488355328) :
    Calls Try.prog 89 #[.pointer (some ⟨g, 0, none⟩)] w fun e w' => e = .returned (.int .u8 (rdB b.data.toList s).1.toNat) ∧ Rdd w' g b (rdB b.data.toList s).2 ∧ w.grownBy w' (some g) := by
  have HL := rdR_len (b := b.data.toList) (k := 1) (s := s)
  have H := Lib.hid h
  obtain ⟨c, hc⟩ : ∃ c : UInt8, c = (rdR b.data.toList 1 s).1.headD 0 := ⟨_, rfl⟩
  have HC := Lib.hid hc
  have h256 := c.toNat_lt
  have e1 : IntKind.u8.wrap (c.toNat : Int) = c.toNat := IntWalk.u8_in _ (by omega)
  clear hc
  clear h
  go_enter Try.func89, Try.ntmps89
  go_wp2_with fail
  refine (draw_any g b 1 s _ H.out hb (by omega)).mono ?_
  rintro e w1 ⟨rfl, h1, g1⟩
  have H1 := Lib.hid h1
  have G1 := Lib.hid g1
  clear h1 g1
  go_wp2_with fail
  refine (whole_any _ c HC.out HL _).mono ?_
  rintro e w2 ⟨rfl, rfl⟩
  go_wp2
  go_ret
  exact ⟨by
    show _ = Ending.returned (.int .u8 ((rdR b.data.toList 1 s).1.headD 0).toNat)
    rw [← HC.out]
    rfl, H1.out, G1.out⟩
theorem digs_step {B : List UInt8} {j k : Nat} (h : j < B.length) : digs (k + 1) (B.drop j) = if B[j].toNat < 128 then [B[j]] else B[j] :: digs k (B.drop (j + 1)) := by
  rw [List.drop_eq_getElem_cons h, digs]
theorem take_more {B : List UInt8} {n k : Nat} (h : n + k < B.length) : (B.drop n).take (k + 1) = (B.drop n).take k ++ [B[n + k]] := by
  rw [List.take_succ_eq_append_getElem (by simp; omega)]
  simp
theorem ext_str2 (b : ByteArray) (n k : Nat) : b.extract n (n + k) = ⟨((b.data.toList.drop n).take k).toArray⟩ := ext_str b n k

set_option maxRecDepth 100000 in
set_option maxHeartbeats 3200000 in
theorem digits_any (g : Nat) (b : ByteArray) (n : Nat) (w : World) (h : Rdd w g b ⟨n, 0⟩) (hb : b.size ≤ 140737488355328) :
    Calls Try.prog 100 #[.pointer (some ⟨g, 0, none⟩)] w fun e w' => e = .returned (.string ⟨(digs 10 (b.data.toList.drop n)).toArray⟩) ∧ Drawn w w' := by
  have c0 : w.cell? ⟨g, 0, none⟩ = some (.string b) := h.1.cell 0
  have c1 : w.cell? ⟨g, 1, none⟩ = some (.int .i64 n) := h.1.cell 1
  have hn : n ≤ b.size := h.2
  clear h
  go_enter Try.func100, Try.ntmps100
  go_wp2
  go_loopw [3] (fun ii w' => ∃ i : Nat, ii = .int .i64 i ∧ i ≤ 10 ∧ n + i ≤ b.size ∧ Hid (digs 10 (b.data.toList.drop n) = (b.data.toList.drop n).take i ++ digs (10 - i) (b.data.toList.drop (n + i))) ∧ Hid (Drawn w w')) (fun ii _ => 10 - (intOf ii).toNat)
  case atStart => exact ⟨0, rfl, by omega, by omega, Lib.hid (by simp), Lib.hid (Drawn.refl _)⟩
  case round =>
    obtain ⟨i, rfl, hi, hni, hD, hW⟩ := hrel
    obtain ⟨m, rfl⟩ := hW.out
    clear hW
    have l1 : IntKind.i64.wrap ((n : Int) + (i : Int)) = (n : Int) + (i : Int) := IntWalk.i64_in _ (by omega)
    by_cases h10 : i < 10
    · have q1 : decide ((i : Int) < 10) = true := by simp; omega
      have q2 : decide (i < 10) = true := by simp; omega
      by_cases hl : n + i < b.size
      · have l2 : decide ((n : Int) + (i : Int) < (b.size : Int)) = true := by simp; omega
        have l3 : IntKind.i64.wrap ((i : Int) + 1) = (i : Int) + 1 := IntWalk.i64_in _ (by omega)
        have l4 : IntKind.i64.wrap ((n : Int) + ((i : Int) + 1)) = (n : Int) + ((i : Int) + 1) := IntWalk.i64_in _ (by omega)
        have l5 : IntKind.i64.wrap ((n : Int) + ((i : Int) + 1) - 1) = (n : Int) + (i : Int) := by rw [IntWalk.i64_in _ (by omega)]; omega
        have l6 : (0 : Int) ≤ (n : Int) + (i : Int) := by omega
        have l7 : (n : Int) + (i : Int) < (b.size : Int) := by omega
        have l8 : ((n : Int) + (i : Int)).toNat = n + i := by omega
        have l9 : (0 : Int) ≤ (n : Int) + ((i : Int) + 1) := by omega
        have l10 : (n : Int) + ((i : Int) + 1) ≤ (b.size : Int) := by omega
        have l11 : (n : Int) ≤ (n : Int) + ((i : Int) + 1) := by omega
        have l12 : ((n : Int) + ((i : Int) + 1)).toNat = n + (i + 1) := by omega
        obtain ⟨c, hc⟩ : ∃ c : UInt8, c = b.data.toList[n + i]'hl := ⟨_, rfl⟩
        have hx : b[n + i] = c := hc.symm
        have h256 := c.toNat_lt
        have hSt := digs_step (k := 10 - (i + 1)) (show n + i < b.data.toList.length from hl)
        have hTk := take_more (show n + i < b.data.toList.length from hl)
        rw [← hc] at hSt hTk
        rw [show 10 - (i + 1) + 1 = 10 - i by omega] at hSt
        have HX := Lib.hid (ext_str b n (i + 1))
        have hi1 : i + 1 ≤ 10 := by omega
        have hn1 : n + (i + 1) ≤ b.size := by omega
        clear hc
        by_cases h128 : c.toNat < 128
        · have b1 : decide ((c.toNat : Int) < 128) = true := by simp; omega
          have b2 : decide (c.toNat < 128) = true := by simp; omega
          have HF : Hid (digs 10 (b.data.toList.drop n) = (b.data.toList.drop n).take (i + 1)) := Lib.hid (by rw [hD.out, hSt, if_pos h128, hTk])
          clear hSt hTk h10
          go_wp2
          go_quiet (fail)
          go_wp2
          go_quiet (fail)
          go_wp2
          go_quiet (fail)
          go_wp2
          go_ret
          exact ⟨by rw [HF.out, HX.out]; rfl, (by repeat (first | exact Drawn.refl _ | exact ⟨_, rfl⟩ | refine Drawn.drewN ?_ _))⟩
        · have b1 : decide ((c.toNat : Int) < 128) = false := by simp; omega
          have b2 : decide (c.toNat < 128) = false := by simp; omega
          have HF : Hid (digs 10 (b.data.toList.drop n) = (b.data.toList.drop n).take (i + 1) ++ digs (10 - (i + 1)) (b.data.toList.drop (n + (i + 1)))) := Lib.hid (by rw [hD.out, hSt, if_neg h128, hTk, List.append_assoc, List.singleton_append]; rfl)
          clear hSt hTk h10
          go_wp2
          go_quiet (fail)
          go_wp2
          go_quiet (fail)
          go_wp2
          go_roundw
          case rel => exact ⟨i + 1, by go_num, hi1, hn1, HF, Lib.hid (by repeat (first | exact Drawn.refl _ | exact ⟨_, rfl⟩ | refine Drawn.drewN ?_ _))⟩
          case measure => simp [intOf]; omega
      · have l2 : decide ((n : Int) + (i : Int) < (b.size : Int)) = false := by simp; omega
        have l6 : (0 : Int) ≤ (n : Int) + (i : Int) := by omega
        have l7 : (n : Int) + (i : Int) ≤ (b.size : Int) := by omega
        have l8 : ((n : Int) + (i : Int)).toNat = n + i := by omega
        have l9 : (n : Int) ≤ (n : Int) + (i : Int) := by omega
        have HX := Lib.hid (ext_str b n i)
        have HF : Hid (digs 10 (b.data.toList.drop n) = (b.data.toList.drop n).take i) := Lib.hid (by
          obtain ⟨k, hk⟩ : ∃ k, 10 - i = k + 1 := ⟨9 - i, by omega⟩
          rw [hD.out, hk, List.drop_eq_nil_of_le (show b.data.toList.length ≤ n + i by show b.size ≤ _; omega), digs, List.append_nil])
        clear hl h10
        go_wp2
        go_quiet (fail)
        go_wp2
        go_quiet (fail)
        go_wp2
        go_ret
        exact ⟨by rw [HF.out, HX.out]; rfl, (by repeat (first | exact Drawn.refl _ | exact ⟨_, rfl⟩ | refine Drawn.drewN ?_ _))⟩
    · obtain rfl : i = 10 := by omega
      have l6 : (0 : Int) ≤ (n : Int) + 10 := by omega
      have l7 : (n : Int) + 10 ≤ (b.size : Int) := by omega
      have l8 : ((n : Int) + 10).toNat = n + 10 := by omega
      have l9 : (n : Int) ≤ (n : Int) + 10 := by omega
      have l10 : IntKind.i64.wrap ((n : Int) + 10) = (n : Int) + 10 := IntWalk.i64_in _ (by omega)
      have HX := Lib.hid (ext_str b n 10)
      have HF : Hid (digs 10 (b.data.toList.drop n) = (b.data.toList.drop n).take 10) := Lib.hid (by rw [hD.out, Nat.sub_self, digs, List.append_nil])
      clear h10
      go_wp2
      go_quiet (fail)
      go_wp2
      go_quiet (fail)
      go_wp2
      go_ret
      exact ⟨by rw [HF.out, HX.out]; rfl, (by repeat (first | exact Drawn.refl _ | exact ⟨_, rfl⟩ | refine Drawn.drewN ?_ _))⟩

theorem dnum_drop {d : List UInt8} {j : Nat} (h : j < d.length) : dnum (d.drop j) = d[j].toNat % 128 + 128 * dnum (d.drop (j + 1)) := by
  rw [List.drop_eq_getElem_cons h, dnum]
theorem dnum_le : ∀ (d : List UInt8) (j : Nat), dnum (d.drop j) ≤ dnum d
  | [], j => by simp
  | c :: t, 0 => by simp
  | c :: t, j + 1 => by
    rw [List.drop_succ_cons, dnum]
    have := dnum_le t j
    omega
theorem dnum_lt : ∀ (d : List UInt8), 0 < d.length → dnum d < 128 ^ (d.length - 1) * (lastN d % 128 + 1)
  | [], h => absurd h (by simp)
  | [c], _ => by simp [dnum, lastN]
  | a :: c :: t, _ => by
    have ih := dnum_lt (c :: t) (by simp)
    rw [dnum, lastN]
    have e : 128 ^ ((a :: c :: t).length - 1) = 128 * 128 ^ ((c :: t).length - 1) := by
      simp only [List.length_cons]
      rw [show t.length + 1 + 1 - 1 = t.length + 1 - 1 + 1 by omega, Nat.pow_succ, Nat.mul_comm]
    rw [e, Nat.mul_assoc]
    omega
theorem dnum_64 {d : List UInt8} (h : d.length ≤ 10) (h2 : d.length = 10 → lastN d ≤ 1) : dnum d < 18446744073709551616 := by
  by_cases h0 : d.length = 0
  · have : d = [] := List.eq_nil_of_length_eq_zero h0
    subst this; decide
  · have h1 := dnum_lt d (by omega)
    by_cases h10 : d.length = 10
    · have h3 := h2 h10
      rw [h10, show 10 - 1 = 9 from rfl, pow_9] at h1
      have : lastN d % 128 + 1 ≤ 2 := by omega
      have := Nat.mul_le_mul_left 9223372036854775808 this
      omega
    · have h4 : 128 ^ (d.length - 1) ≤ 128 ^ 8 := Nat.pow_le_pow_right (by omega) (by omega)
      have h5 : 128 ^ 8 = 72057594037927936 := by decide
      have h6 : lastN d % 128 + 1 ≤ 128 := by omega
      have h7 := Nat.mul_le_mul h4 h6
      omega
end Go.Proofs.Ytlmnmlehnigfdaa
