/- DERIVED. The program's Reader: so many bytes, one byte, a number to the base 128, a text, the error, the end. -/
import Derived.Test.YtljfigikkajlnaaVRdP
import Derived.Laws.Bits64b
namespace Go.Proofs.Ytljfigikkajlnaa
open Go.RowKit Go.Lib
set_option linter.unusedVariables false
set_option linter.unusedSimpArgs false
/-- A Reader in block g: the bytes b, the place and the error. -/
def Rdr (w : World) (g : Nat) (b : ByteArray) (s : RS) : Prop := GR.Blk w g 121 #[.string b, .int .i64 s.n, .int .i64 s.e] ∧ s.n ≤ b.data.toList.length
theorem Rdr.below {w w' : World} {g : Nat} {b : ByteArray} {s : RS} (h : Rdr w g b s) (hb : Below w.heap.size w w') : Rdr w' g b s := ⟨h.1.below hb h.1.lt, h.2⟩
theorem grown_set {w : World} {g : Nat} (i : Nat) (u : Value) : w.grownBy (w.setCell ⟨g, i, none⟩ u) (some g) :=
 ⟨rfl, rfl, rfl, by simp [World.setCell], fun k _ hk => Below.heap_setCell _ _ _ _ (by intro e; subst e; exact hk rfl)⟩
theorem grown_trans {a b c : World} {r : Option Nat} (h : a.grownBy b r) (k : b.grownBy c r) : a.grownBy c r := GR.grown_step h k (.inl rfl)
theorem newReader_any (b : ByteArray) (w : World) :
 Calls Try.prog 40 #[.string b] w fun e w' => e = .returned (.pointer (some ⟨w.heap.size, 0, none⟩)) ∧ Rdr w' w.heap.size b ⟨0, 0⟩ ∧ Below w.heap.size w w' := by
 go_enter Try.func40, Try.ntmps40
 go_wp2
 go_ret
 exact ⟨rfl, ⟨GR.Blk.new _ _ _, Nat.zero_le _⟩, (Below.refl _ _).alloc (Nat.le_refl _) _⟩
theorem ext_str (b : ByteArray) (n k : Nat) : b.extract n (n + k) = ⟨((b.data.toList.drop n).take k).toArray⟩ := by
 apply ByteArray.ext
 apply Array.toList_inj.1
 simp [ByteArray.extract, ByteArray.copySlice, Array.toList_extract, List.extract]
theorem rtake_any (g : Nat) (b : ByteArray) (k : Nat) (s : RS) (w : World) (h : Rdr w g b s) (hb : b.size ≤ 140737488355328) (hk : k ≤ 140737488355328) :
 Calls Try.prog 91 #[.pointer (some ⟨g, 0, none⟩), .int .i64 k] w fun e w' => e = .returned (.tuple #[.string ⟨(rdR b.data.toList k s).1.toArray⟩, .bool (decide ((rdR b.data.toList k s).2.e = 0))]) ∧ Rdr w' g b (rdR b.data.toList k s).2 ∧ w.grownBy w' (some g) := by
 obtain ⟨n, er⟩ := s
 have c0 : w.cell? ⟨g, 0, none⟩ = some (.string b) := h.1.cell 0
 have c1 : w.cell? ⟨g, 1, none⟩ = some (.int .i64 n) := h.1.cell 1
 have c2 : w.cell? ⟨g, 2, none⟩ = some (.int .i64 er) := h.1.cell 2
 have f1 := h.1.frozen 1
 have f2 := h.1.frozen 2
 have H := Lib.hid h
 have hn : n ≤ b.size := h.2
 clear h
 by_cases he : er = 0
 · subst he
   by_cases hl : b.size - n < k
   · have HP : Hid (rdR b.data.toList k ⟨n, 0⟩ = ([], ⟨n, 10⟩)) := Lib.hid (by rw [rdR, if_pos rfl, if_pos (show b.data.toList.length - n < k from hl)])
     have l1 : decide ((b.size : Int) - (n : Int) < (k : Int)) = true := by simp; omega
     have l2 : IntKind.i64.wrap ((b.size : Int) - (n : Int)) = (b.size : Int) - (n : Int) := IntWalk.i64_in _ (by omega)
     clear hl
     go_enter Try.func91, Try.ntmps91
     go_wp2
     go_quiet (fail)
     go_wp2
     go_ret2
     rw [HP.out]
     exact ⟨rfl, ⟨(H.out.1.drewN _).set_ 2 _, H.out.2⟩, grown_trans (grown_drewN (grown_refl w _) _) (grown_set 2 _)⟩
   · have HP : Hid (rdR b.data.toList k ⟨n, 0⟩ = ((b.data.toList.drop n).take k, ⟨n + k, 0⟩)) := Lib.hid (by rw [rdR, if_pos rfl, if_neg (show ¬ b.data.toList.length - n < k from hl)])
     have l1 : decide ((b.size : Int) - (n : Int) < (k : Int)) = false := by simp; omega
     have l2 : IntKind.i64.wrap ((b.size : Int) - (n : Int)) = (b.size : Int) - (n : Int) := IntWalk.i64_in _ (by omega)
     have l3 : IntKind.i64.wrap ((n : Int) + (k : Int)) = (n : Int) + (k : Int) := IntWalk.i64_in _ (by omega)
     have l4 : (0 : Int) ≤ (n : Int) + (k : Int) := by omega
     have l5 : (n : Int) + (k : Int) ≤ (b.size : Int) := by omega
     have l6 : (n : Int) ≤ (n : Int) + (k : Int) := by omega
     have l7 : ((n : Int) + (k : Int)).toNat = n + k := by omega
     have HX := Lib.hid (ext_str b n k)
     clear hl
     go_enter Try.func91, Try.ntmps91
     go_wp2
     go_quiet (fail)
     go_wp2
     go_quiet (fail)
     go_wp2
     go_ret2
     rw [HP.out]
     exact ⟨by rw [HX.out]; rfl, ⟨by have := ((H.out.1.drewN 2).set_ 1 (.int .i64 ((n : Int) + (k : Int)))); exact this, by show n + k ≤ b.size; omega⟩, grown_trans (grown_drewN (grown_refl w _) _) (grown_set 1 _)⟩
 · have HP : Hid (rdR b.data.toList k ⟨n, er⟩ = ([], ⟨n, er⟩)) := Lib.hid (by rw [rdR, if_neg he])
   have e1 : decide (er = 0) = false := by simpa using he
   have e2 : (er != 0) = true := by simpa using he
   have HE := Lib.hid e1
   clear he
   go_enter Try.func91, Try.ntmps91
   go_wp2
   go_ret2
   rw [HP.out]
   exact ⟨by
    show _ = Ending.returned (.tuple #[.string ⟨#[]⟩, .bool (decide (er = 0))])
    rw [HE.out]
    rfl, H.out, grown_refl w _⟩
/-- The number of one byte, or of none. -/
theorem high_any (l : List UInt8) (x : UInt8) (hx : x = l.headD 0) (hl : l.length ≤ 1) (w : World) :
 Calls Try.prog 92 #[.string ⟨l.toArray⟩] w fun e w' => e = .returned (.int .u64 x.toNat) ∧ w = w' := by
 subst hx
 match l, hl with
 | [], _ =>
  go_enter Try.func92, Try.ntmps92
  go_wp2
  go_loopw [3, 7] (fun v i w' => v = .int .u64 0 ∧ i = .int .i64 0 ∧ w' = w) (fun _ _ _ => 0)
  case atStart => exact ⟨rfl, rfl, rfl⟩
  case round =>
   obtain ⟨rfl, rfl, rfl⟩ := hrel
   go_wp2
   go_ret
   exact ⟨rfl, rfl⟩
 | [c], _ =>
  have hc := c.toNat_lt
  have e1 : bits .or .u64 0 (c.toNat : Int) = (c.toNat : Int) := by
   have := bits_or_u64_nat 0 c.toNat (by omega) (by omega)
   simpa using this
  go_enter Try.func92, Try.ntmps92
  go_wp2
  go_loopw [3, 7] (fun v i w' => ∃ k : Nat, k ≤ 1 ∧ i = .int .i64 k ∧ v = .int .u64 (if k = 0 then 0 else (c.toNat : Int)) ∧ w' = w) (fun _ i _ => 1 - (intOf i).toNat)
  case atStart => exact ⟨0, by omega, rfl, rfl, rfl⟩
  case round =>
   obtain ⟨k, hk, rfl, rfl, rfl⟩ := hrel
   by_cases h0 : k = 0
   · subst h0
     go_wp2
     go_roundw
     case rel => exact ⟨1, by omega, rfl, by
      show Value.int .u64 (bits .or .u64 0 (IntKind.u64.wrap (c.toNat : Int))) = Value.int .u64 (c.toNat : Int)
      rw [IntWalk.u64_in _ (by omega), e1], by first | rfl | trivial⟩
     case measure => simp [intOf]
   · obtain rfl : k = 1 := by omega
     go_wp2
     go_ret
     exact ⟨rfl, rfl⟩
theorem rbyte_any (g : Nat) (b : ByteArray) (s : RS) (w : World) (h : Rdr w g b s) (hb : b.size ≤ 140737488355328) :
 Calls Try.prog 95 #[.pointer (some ⟨g, 0, none⟩)] w fun e w' => e = .returned (.int .u8 (rdB b.data.toList s).1.toNat) ∧ Rdr w' g b (rdB b.data.toList s).2 ∧ w.grownBy w' (some g) := by
 have HL := rdR_len (b := b.data.toList) (k := 1) (s := s)
 have H := Lib.hid h
 obtain ⟨c, hc⟩ : ∃ c : UInt8, c = (rdR b.data.toList 1 s).1.headD 0 := ⟨_, rfl⟩
 have HC := Lib.hid hc
 have h256 := c.toNat_lt
 have e1 : IntKind.u8.wrap (c.toNat : Int) = c.toNat := IntWalk.u8_in _ (by omega)
 clear hc
 clear h
 go_enter Try.func95, Try.ntmps95
 go_wp2_with fail
 refine (rtake_any g b 1 s _ H.out hb (by omega)).mono ?_
 rintro e w1 ⟨rfl, h1, g1⟩
 have H1 := Lib.hid h1
 have G1 := Lib.hid g1
 clear h1 g1
 go_wp2_with fail
 refine (high_any _ c HC.out HL _).mono ?_
 rintro e w2 ⟨rfl, rfl⟩
 go_wp2
 go_ret
 exact ⟨by
  show _ = Ending.returned (.int .u8 ((rdR b.data.toList 1 s).1.headD 0).toNat)
  rw [← HC.out]
  rfl, H1.out, G1.out⟩
theorem or_shl (v i x : Nat) (hi : i ≤ 9) (hv : v < 128 ^ i) (hx : x < 128) (h9 : i = 9 → x ≤ 1) : v ||| (x <<< (7 * i)) = v + x * 128 ^ i ∧ v + x * 128 ^ i < 18446744073709551616 ∧ x <<< (7 * i) = x * 128 ^ i ∧ x * 128 ^ i < 18446744073709551616 := by
 have e0 : 128 ^ i = 2 ^ (7 * i) := by rw [Nat.pow_mul]
 have e1 : x <<< (7 * i) = x * 128 ^ i := by rw [Nat.shiftLeft_eq, e0]
 have e2 : v + x * 128 ^ i < 18446744073709551616 := by
  by_cases h : i = 9
  · subst h
    have := h9 rfl
    rw [pow_9] at hv ⊢
    omega
  · have h1 : 128 ^ i ≤ 128 ^ 8 := Nat.pow_le_pow_right (by omega) (by omega)
    have h2 : 128 ^ 8 = 72057594037927936 := by decide
    have h3 : x * 128 ^ i ≤ 127 * 128 ^ i := Nat.mul_le_mul_right _ (by omega)
    omega
 refine ⟨?_, e2, e1, by omega⟩
 rw [Nat.or_comm, ← Nat.shiftLeft_add_eq_or_of_lt (by rw [← e0]; exact hv), e1, Nat.add_comm]
theorem or_shl_int (v i x : Nat) (hi : i ≤ 9) (hv : v < 128 ^ i) (h9 : i = 9 → x % 128 ≤ 1) (V : Nat) (hV : V = v + x % 128 * 128 ^ i) : bits .or .u64 (v : Int) (IntKind.u64.wrap ((x : Int) % 128 * 2 ^ (7 * i))) = (V : Int) := by
 obtain ⟨e1, e2, e3, e4⟩ := or_shl v i (x % 128) hi hv (by omega) h9
 have e5 : (x : Int) % 128 * 2 ^ (7 * i) = ((x % 128 * 128 ^ i : Nat) : Int) := by
  rw [show (128 : Nat) ^ i = 2 ^ (7 * i) by rw [Nat.pow_mul]]
  push_cast
  rfl
 rw [e5, IntWalk.u64_in _ (by omega), bits_or_u64_nat v _ (by omega) e4, hV, ← e1, e3]
theorem shl_lt (v i x : Nat) (hv : v < 128 ^ i) (hx : x < 128) : v + x * 128 ^ i < 128 ^ (i + 1) := by
 have : x * 128 ^ i ≤ 127 * 128 ^ i := Nat.mul_le_mul_right _ (by omega)
 rw [Nat.pow_succ]
 omega
theorem uscan_step {B : List UInt8} {most j i v : Nat} (h : j < B.length) : uscan most (B.drop j) i v =
 if i = 9 ∧ 1 < B[j].toNat then (11, 0, 0) else if 128 ≤ B[j].toNat then uscan most (B.drop (j + 1)) (i + 1) (v + B[j].toNat % 128 * 128 ^ i)
 else if (B[j].toNat = 0 ∧ 0 < i) ∨ most < v + B[j].toNat % 128 * 128 ^ i then (11, 0, 0) else (0, v + B[j].toNat % 128 * 128 ^ i, i + 1) := by
 rw [List.drop_eq_getElem_cons h, uscan]
set_option maxRecDepth 100000 in
set_option maxHeartbeats 3200000 in
theorem runint_any (g : Nat) (b : ByteArray) (most : Nat) (s : RS) (w : World) (h : Rdr w g b s) (hb : b.size ≤ 140737488355328) (hm : most < 18446744073709551616) :
 Calls Try.prog 94 #[.pointer (some ⟨g, 0, none⟩), .int .u64 most] w fun e w' => e = .returned (.int .u64 (rdU b.data.toList most s).1) ∧ Rdr w' g b (rdU b.data.toList most s).2 ∧ w.grownBy w' (some g) := by
 obtain ⟨n, er⟩ := s
 have c0 : w.cell? ⟨g, 0, none⟩ = some (.string b) := h.1.cell 0
 have c1 : w.cell? ⟨g, 1, none⟩ = some (.int .i64 n) := h.1.cell 1
 have c2 : w.cell? ⟨g, 2, none⟩ = some (.int .i64 er) := h.1.cell 2
 have H := Lib.hid h
 have hn : n ≤ b.size := h.2
 by_cases he : er = 0
 · subst he
   have HP : Hid (rdU b.data.toList most ⟨n, 0⟩ = if (uscan most (b.data.toList.drop n) 0 0).1 = 0 then ((uscan most (b.data.toList.drop n) 0 0).2.1, ⟨n + (uscan most (b.data.toList.drop n) 0 0).2.2, 0⟩) else (0, ⟨n, (uscan most (b.data.toList.drop n) 0 0).1⟩)) := Lib.hid (by rw [rdU, if_pos rfl])
   have BND := rdU_place (b := b.data.toList) (most := most) (s := ⟨n, 0⟩) h.2
   have HBN := Lib.hid BND
   have hf2 := h.1.frozen 2
   clear h BND
   go_enter Try.func94, Try.ntmps94
   go_wp2
   go_loopw [5, 17] (fun vv ii w' => ∃ i v m : Nat, ii = .int .i64 i ∧ vv = .int .u64 v ∧ i ≤ 9 ∧ Hid (v < 128 ^ i) ∧ n + i ≤ b.size ∧ Hid (uscan most (b.data.toList.drop n) 0 0 = uscan most (b.data.toList.drop (n + i)) i v) ∧ w' = w.drewN m) (fun _ ii _ => 10 - (intOf ii).toNat)
   case atStart => exact ⟨0, 0, 0, rfl, rfl, by omega, Lib.hid (by decide), by omega, Lib.hid rfl, rfl⟩
   case round =>
    obtain ⟨i, v, m, rfl, rfl, hi, hv, hni, hU, rfl⟩ := hrel
    have l1 : IntKind.i64.wrap ((n : Int) + (i : Int)) = (n : Int) + (i : Int) := IntWalk.i64_in _ (by omega)
    by_cases hl : n + i < b.size
    · have l2 : decide ((b.size : Int) ≤ (n : Int) + (i : Int)) = false := by simp; omega
      have l3 : (0 : Int) ≤ (n : Int) + (i : Int) := by omega
      have l4 : (n : Int) + (i : Int) < (b.size : Int) := by omega
      have l5 : ((n : Int) + (i : Int)).toNat = n + i := by omega
      have HS := Lib.hid (uscan_step (most := most) (i := i) (v := v) (show n + i < b.data.toList.length from hl))
      obtain ⟨c, hc⟩ : ∃ c : UInt8, c = b.data.toList[n + i]'hl := ⟨_, rfl⟩
      have hx : b[n + i] = c := hc.symm
      have h256 := c.toNat_lt
      have e2 : bits .and .u8 (c.toNat : Int) 127 = ((c.toNat % 128 : Nat) : Int) := by
       have h9 : ∀ y : Fin 256, bits .and .u8 ((y.val : Nat) : Int) 127 = ((y.val % 128 : Nat) : Int) := by decide +kernel
       exact h9 ⟨c.toNat, by omega⟩
      have e3 : IntKind.u64.wrap ((c.toNat % 128 : Nat) : Int) = ((c.toNat % 128 : Nat) : Int) := IntWalk.u64_in _ (by omega)
      have e4 : IntKind.i64.wrap (7 * (i : Int)) = 7 * (i : Int) := IntWalk.i64_in _ (by omega)
      have hS := HS.out
      rw [← hc] at hS
      clear HS hc
      have HS := Lib.hid hS
      clear hS
      by_cases h9 : i = 9
      · have b1 : decide ((i : Int) = 9) = true := by first | (simp; done) | (simp; omega) | omega
        have b2 : decide (i = 9) = true := by first | (simp; done) | (simp; omega) | omega
        have b3 : ((i : Int) == 9) = true := by first | (simp; done) | (simp; omega) | omega
        have b4 : (i == 9) = true := by first | (simp; done) | (simp; omega) | omega
        by_cases h1 : 1 < c.toNat
        · have b5 : decide ((1 : Int) < (c.toNat : Int)) = true := by first | (simp; done) | (simp; omega) | omega
          have b6 : decide (1 < c.toNat) = true := by first | (simp; done) | (simp; omega) | omega
          have HD : Hid (uscan most (b.data.toList.drop n) 0 0 = (11, 0, 0)) := Lib.hid (by rw [hU.out, HS.out, if_pos ⟨h9, h1⟩])
          have HQ : Hid (rdU b.data.toList most ⟨n, 0⟩ = (0, ⟨n, 11⟩)) := Lib.hid (by rw [HP.out, HD.out]; rfl)
          try clear h9
          try clear hc0
          go_wp2
          go_quiet (fail)
          go_wp2
          go_quiet (fail)
          go_wp2
          go_ret
          rw [HQ.out]
          exact ⟨rfl, ⟨by exact (H.out.1.drewN _).set_ 2 _, H.out.2⟩, grown_trans (grown_drewN (grown_refl w _) _) (grown_set 2 _)⟩
        · have b7 : decide ((1 : Int) < (c.toNat : Int)) = false := by first | (simp; done) | (simp; omega) | omega
          have b8 : decide (1 < c.toNat) = false := by first | (simp; done) | (simp; omega) | omega
          have OS := or_shl v i (c.toNat % 128) hi hv.out (by omega) (fun _ => by omega)
          have OV := Lib.hid OS.2.1
          obtain ⟨V, hV⟩ : ∃ V : Nat, V = v + c.toNat % 128 * 128 ^ i := ⟨_, rfl⟩
          have e5 : bits .or .u64 (v : Int) (IntKind.u64.wrap ((c.toNat : Int) % 128 * 2 ^ (7 * i))) = (V : Int) := or_shl_int v i c.toNat hi hv.out (by omega) V hV
          have HV := Lib.hid hV
          clear OS hV
          have b9 : decide ((128 : Int) ≤ (c.toNat : Int)) = false := by first | (simp; done) | (simp; omega) | omega
          have b10 : decide (128 ≤ c.toNat) = false := by first | (simp; done) | (simp; omega) | omega
          by_cases hc0 : c.toNat = 0
          · have b11 : decide ((c.toNat : Int) = 0) = true := by first | (simp; done) | (simp; omega) | omega
            have b12 : decide (c.toNat = 0) = true := by first | (simp; done) | (simp; omega) | omega
            have b13 : ((c.toNat : Int) == 0) = true := by first | (simp; done) | (simp; omega) | omega
            have b14 : (c.toNat == 0) = true := by first | (simp; done) | (simp; omega) | omega
            by_cases hi0 : 0 < i
            · have b15 : decide ((0 : Int) < (i : Int)) = true := by first | (simp; done) | (simp; omega) | omega
              have b16 : decide (0 < i) = true := by first | (simp; done) | (simp; omega) | omega
              have HD : Hid (uscan most (b.data.toList.drop n) 0 0 = (11, 0, 0)) := Lib.hid (by rw [hU.out, HS.out, if_neg (by omega), if_neg (by omega), if_pos (.inl ⟨hc0, hi0⟩)])
              have HQ : Hid (rdU b.data.toList most ⟨n, 0⟩ = (0, ⟨n, 11⟩)) := Lib.hid (by rw [HP.out, HD.out]; rfl)
              try clear h9
              try clear hc0
              go_wp2
              go_quiet (fail)
              go_wp2
              go_quiet (fail)
              go_wp2
              go_ret
              rw [HQ.out]
              exact ⟨rfl, ⟨by exact (H.out.1.drewN _).set_ 2 _, H.out.2⟩, grown_trans (grown_drewN (grown_refl w _) _) (grown_set 2 _)⟩
            · omega
          · have b17 : decide ((c.toNat : Int) = 0) = false := by first | (simp; done) | (simp; omega) | omega
            have b18 : decide (c.toNat = 0) = false := by first | (simp; done) | (simp; omega) | omega
            have b19 : ((c.toNat : Int) == 0) = false := by first | (simp; done) | (simp; omega) | omega
            have b20 : (c.toNat == 0) = false := by first | (simp; done) | (simp; omega) | omega
            by_cases hm2 : most < V
            · have b21 : decide ((most : Int) < (V : Int)) = true := by first | (simp; done) | (simp; omega) | omega
              have b22 : decide (most < V) = true := by first | (simp; done) | (simp; omega) | omega
              have HD : Hid (uscan most (b.data.toList.drop n) 0 0 = (11, 0, 0)) := Lib.hid (by rw [hU.out, HS.out, if_neg (by omega), if_neg (by omega), if_pos (.inr (by rw [← HV.out]; exact hm2))])
              have HQ : Hid (rdU b.data.toList most ⟨n, 0⟩ = (0, ⟨n, 11⟩)) := Lib.hid (by rw [HP.out, HD.out]; rfl)
              try clear h9
              try clear hc0
              go_wp2
              go_quiet (fail)
              go_wp2
              go_quiet (fail)
              go_wp2
              go_ret
              rw [HQ.out]
              exact ⟨rfl, ⟨by exact (H.out.1.drewN _).set_ 2 _, H.out.2⟩, grown_trans (grown_drewN (grown_refl w _) _) (grown_set 2 _)⟩
            · have b23 : decide ((most : Int) < (V : Int)) = false := by first | (simp; done) | (simp; omega) | omega
              have b24 : decide (most < V) = false := by first | (simp; done) | (simp; omega) | omega
              have HD : Hid (uscan most (b.data.toList.drop n) 0 0 = (0, V, i + 1)) := Lib.hid (by rw [hU.out, HS.out, if_neg (by omega), if_neg (by omega), if_neg (by rw [← HV.out]; omega), ← HV.out])
              have HQ : Hid (rdU b.data.toList most ⟨n, 0⟩ = (V, ⟨n + (i + 1), 0⟩)) := Lib.hid (by rw [HP.out, HD.out]; rfl)
              have l6 : IntKind.i64.wrap ((i : Int) + 1) = (i : Int) + 1 := IntWalk.i64_in _ (by omega)
              have l7 : IntKind.i64.wrap ((n : Int) + ((i : Int) + 1)) = (n : Int) + ((i : Int) + 1) := IntWalk.i64_in _ (by omega)
              have hf1 := H.out.1.frozen 1
              try clear h9
              try clear hc0
              go_wp2
              go_quiet (fail)
              go_wp2
              go_quiet (fail)
              go_wp2
              go_ret
              rw [HQ.out]
              exact ⟨rfl, ⟨by exact (H.out.1.drewN _).set_ 1 _, by show n + (i + 1) ≤ b.size; omega⟩, grown_trans (grown_drewN (grown_refl w _) _) (grown_set 1 _)⟩
      · have b25 : decide ((i : Int) = 9) = false := by first | (simp; done) | (simp; omega) | omega
        have b26 : decide (i = 9) = false := by first | (simp; done) | (simp; omega) | omega
        have b27 : ((i : Int) == 9) = false := by first | (simp; done) | (simp; omega) | omega
        have b28 : (i == 9) = false := by first | (simp; done) | (simp; omega) | omega
        have OS := or_shl v i (c.toNat % 128) hi hv.out (by omega) (fun _ => by omega)
        have OV := Lib.hid OS.2.1
        obtain ⟨V, hV⟩ : ∃ V : Nat, V = v + c.toNat % 128 * 128 ^ i := ⟨_, rfl⟩
        have e5 : bits .or .u64 (v : Int) (IntKind.u64.wrap ((c.toNat : Int) % 128 * 2 ^ (7 * i))) = (V : Int) := or_shl_int v i c.toNat hi hv.out (by omega) V hV
        have HV := Lib.hid hV
        clear OS hV
        by_cases h128 : 128 ≤ c.toNat
        · have b29 : decide ((128 : Int) ≤ (c.toNat : Int)) = true := by first | (simp; done) | (simp; omega) | omega
          have b30 : decide (128 ≤ c.toNat) = true := by first | (simp; done) | (simp; omega) | omega
          have HD : Hid (uscan most (b.data.toList.drop n) 0 0 = uscan most (b.data.toList.drop (n + i + 1)) (i + 1) V) := Lib.hid (by rw [hU.out, HS.out, if_neg (by omega), if_pos h128, ← HV.out])
          have hi9 : i + 1 ≤ 9 := by omega
          have HVB : Hid (V < 128 ^ (i + 1)) := Lib.hid (by rw [HV.out]; exact shl_lt v i _ hv.out (by omega))
          try clear h9
          try clear hc0
          go_wp2
          go_quiet (fail)
          go_wp2
          go_quiet (fail)
          go_wp2
          go_roundw
          case rel => exact ⟨i + 1, V, _, by go_num, rfl, hi9, HVB, by omega, HD, rfl⟩
          case measure => simp [intOf]; omega
        · have b31 : decide ((128 : Int) ≤ (c.toNat : Int)) = false := by first | (simp; done) | (simp; omega) | omega
          have b32 : decide (128 ≤ c.toNat) = false := by first | (simp; done) | (simp; omega) | omega
          by_cases hc0 : c.toNat = 0
          · have b33 : decide ((c.toNat : Int) = 0) = true := by first | (simp; done) | (simp; omega) | omega
            have b34 : decide (c.toNat = 0) = true := by first | (simp; done) | (simp; omega) | omega
            have b35 : ((c.toNat : Int) == 0) = true := by first | (simp; done) | (simp; omega) | omega
            have b36 : (c.toNat == 0) = true := by first | (simp; done) | (simp; omega) | omega
            by_cases hi0 : 0 < i
            · have b37 : decide ((0 : Int) < (i : Int)) = true := by first | (simp; done) | (simp; omega) | omega
              have b38 : decide (0 < i) = true := by first | (simp; done) | (simp; omega) | omega
              have HD : Hid (uscan most (b.data.toList.drop n) 0 0 = (11, 0, 0)) := Lib.hid (by rw [hU.out, HS.out, if_neg (by omega), if_neg (by omega), if_pos (.inl ⟨hc0, hi0⟩)])
              have HQ : Hid (rdU b.data.toList most ⟨n, 0⟩ = (0, ⟨n, 11⟩)) := Lib.hid (by rw [HP.out, HD.out]; rfl)
              try clear h9
              try clear hc0
              go_wp2
              go_quiet (fail)
              go_wp2
              go_quiet (fail)
              go_wp2
              go_ret
              rw [HQ.out]
              exact ⟨rfl, ⟨by exact (H.out.1.drewN _).set_ 2 _, H.out.2⟩, grown_trans (grown_drewN (grown_refl w _) _) (grown_set 2 _)⟩
            · have b39 : decide ((0 : Int) < (i : Int)) = false := by first | (simp; done) | (simp; omega) | omega
              have b40 : decide (0 < i) = false := by first | (simp; done) | (simp; omega) | omega
              by_cases hm2 : most < V
              · have b41 : decide ((most : Int) < (V : Int)) = true := by first | (simp; done) | (simp; omega) | omega
                have b42 : decide (most < V) = true := by first | (simp; done) | (simp; omega) | omega
                have HD : Hid (uscan most (b.data.toList.drop n) 0 0 = (11, 0, 0)) := Lib.hid (by rw [hU.out, HS.out, if_neg (by omega), if_neg (by omega), if_pos (.inr (by rw [← HV.out]; exact hm2))])
                have HQ : Hid (rdU b.data.toList most ⟨n, 0⟩ = (0, ⟨n, 11⟩)) := Lib.hid (by rw [HP.out, HD.out]; rfl)
                try clear h9
                try clear hc0
                go_wp2
                go_quiet (fail)
                go_wp2
                go_quiet (fail)
                go_wp2
                go_ret
                rw [HQ.out]
                exact ⟨rfl, ⟨by exact (H.out.1.drewN _).set_ 2 _, H.out.2⟩, grown_trans (grown_drewN (grown_refl w _) _) (grown_set 2 _)⟩
              · have b43 : decide ((most : Int) < (V : Int)) = false := by first | (simp; done) | (simp; omega) | omega
                have b44 : decide (most < V) = false := by first | (simp; done) | (simp; omega) | omega
                have HD : Hid (uscan most (b.data.toList.drop n) 0 0 = (0, V, i + 1)) := Lib.hid (by rw [hU.out, HS.out, if_neg (by omega), if_neg (by omega), if_neg (by rw [← HV.out]; omega), ← HV.out])
                have HQ : Hid (rdU b.data.toList most ⟨n, 0⟩ = (V, ⟨n + (i + 1), 0⟩)) := Lib.hid (by rw [HP.out, HD.out]; rfl)
                have l6 : IntKind.i64.wrap ((i : Int) + 1) = (i : Int) + 1 := IntWalk.i64_in _ (by omega)
                have l7 : IntKind.i64.wrap ((n : Int) + ((i : Int) + 1)) = (n : Int) + ((i : Int) + 1) := IntWalk.i64_in _ (by omega)
                have hf1 := H.out.1.frozen 1
                try clear h9
                try clear hc0
                go_wp2
                go_quiet (fail)
                go_wp2
                go_quiet (fail)
                go_wp2
                go_ret
                rw [HQ.out]
                exact ⟨rfl, ⟨by exact (H.out.1.drewN _).set_ 1 _, by show n + (i + 1) ≤ b.size; omega⟩, grown_trans (grown_drewN (grown_refl w _) _) (grown_set 1 _)⟩
          · have b45 : decide ((c.toNat : Int) = 0) = false := by first | (simp; done) | (simp; omega) | omega
            have b46 : decide (c.toNat = 0) = false := by first | (simp; done) | (simp; omega) | omega
            have b47 : ((c.toNat : Int) == 0) = false := by first | (simp; done) | (simp; omega) | omega
            have b48 : (c.toNat == 0) = false := by first | (simp; done) | (simp; omega) | omega
            by_cases hm2 : most < V
            · have b49 : decide ((most : Int) < (V : Int)) = true := by first | (simp; done) | (simp; omega) | omega
              have b50 : decide (most < V) = true := by first | (simp; done) | (simp; omega) | omega
              have HD : Hid (uscan most (b.data.toList.drop n) 0 0 = (11, 0, 0)) := Lib.hid (by rw [hU.out, HS.out, if_neg (by omega), if_neg (by omega), if_pos (.inr (by rw [← HV.out]; exact hm2))])
              have HQ : Hid (rdU b.data.toList most ⟨n, 0⟩ = (0, ⟨n, 11⟩)) := Lib.hid (by rw [HP.out, HD.out]; rfl)
              try clear h9
              try clear hc0
              go_wp2
              go_quiet (fail)
              go_wp2
              go_quiet (fail)
              go_wp2
              go_ret
              rw [HQ.out]
              exact ⟨rfl, ⟨by exact (H.out.1.drewN _).set_ 2 _, H.out.2⟩, grown_trans (grown_drewN (grown_refl w _) _) (grown_set 2 _)⟩
            · have b51 : decide ((most : Int) < (V : Int)) = false := by first | (simp; done) | (simp; omega) | omega
              have b52 : decide (most < V) = false := by first | (simp; done) | (simp; omega) | omega
              have HD : Hid (uscan most (b.data.toList.drop n) 0 0 = (0, V, i + 1)) := Lib.hid (by rw [hU.out, HS.out, if_neg (by omega), if_neg (by omega), if_neg (by rw [← HV.out]; omega), ← HV.out])
              have HQ : Hid (rdU b.data.toList most ⟨n, 0⟩ = (V, ⟨n + (i + 1), 0⟩)) := Lib.hid (by rw [HP.out, HD.out]; rfl)
              have l6 : IntKind.i64.wrap ((i : Int) + 1) = (i : Int) + 1 := IntWalk.i64_in _ (by omega)
              have l7 : IntKind.i64.wrap ((n : Int) + ((i : Int) + 1)) = (n : Int) + ((i : Int) + 1) := IntWalk.i64_in _ (by omega)
              have hf1 := H.out.1.frozen 1
              try clear h9
              try clear hc0
              go_wp2
              go_quiet (fail)
              go_wp2
              go_quiet (fail)
              go_wp2
              go_ret
              rw [HQ.out]
              exact ⟨rfl, ⟨by exact (H.out.1.drewN _).set_ 1 _, by show n + (i + 1) ≤ b.size; omega⟩, grown_trans (grown_drewN (grown_refl w _) _) (grown_set 1 _)⟩
    · have l2 : decide ((b.size : Int) ≤ (n : Int) + (i : Int)) = true := by simp; omega
      have HD : Hid (uscan most (b.data.toList.drop n) 0 0 = (10, 0, 0)) := Lib.hid (by rw [hU.out, List.drop_eq_nil_of_le (by show b.size ≤ _; omega), uscan])
      clear hl
      go_wp2
      go_quiet (fail)
      go_wp2
      have HQ : Hid (rdU b.data.toList most ⟨n, 0⟩ = (0, ⟨n, 10⟩)) := Lib.hid (by rw [HP.out, HD.out]; rfl)
      go_ret
      rw [HQ.out]
      exact ⟨rfl, ⟨by have := (H.out.1.drewN (m + 1)).set_ 2 (.int .i64 10); exact this, H.out.2⟩, grown_trans (grown_drewN (grown_refl w _) _) (grown_set 2 _)⟩
 · have HP : Hid (rdU b.data.toList most ⟨n, er⟩ = (0, ⟨n, er⟩)) := Lib.hid (by rw [rdU, if_neg he])
   have e1 : decide (er = 0) = false := by simpa using he
   have e2 : (er != 0) = true := by simpa using he
   clear he h
   go_enter Try.func94, Try.ntmps94
   go_wp2
   go_ret
   rw [HP.out]
   exact ⟨rfl, H.out, grown_refl w _⟩
theorem rtext_any (g : Nat) (b : ByteArray) (most : Nat) (s : RS) (w : World) (h : Rdr w g b s) (hb : b.size ≤ 140737488355328) (hm : most ≤ 140737488355328) :
 Calls Try.prog 96 #[.pointer (some ⟨g, 0, none⟩), .int .i64 most] w fun e w' => e = .returned (.string ⟨(rdT b.data.toList most s).1.toArray⟩) ∧ Rdr w' g b (rdT b.data.toList most s).2 ∧ w.grownBy w' (some g) := by
 have c1 : w.cell? ⟨g, 1, none⟩ = some (.int .i64 s.n) := h.1.cell 1
 have H := Lib.hid h
 have hn : s.n ≤ b.size := h.2
 have e1 : IntKind.u64.wrap (most : Int) = (most : Int) := IntWalk.u64_in _ (by omega)
 have hle := rdU_le b.data.toList most s
 have e2 : IntKind.i64.wrap ((rdU b.data.toList most s).1 : Int) = ((rdU b.data.toList most s).1 : Int) := IntWalk.i64_in _ (by omega)
 have e3 : decide ((most : Int) < 0) = false := by simp
 clear h
 go_enter Try.func96, Try.ntmps96
 go_wp2_with fail
 refine (runint_any g b most s _ H.out hb (by omega)).mono ?_
 rintro e w1 ⟨rfl, h1, g1⟩
 have H1 := Lib.hid h1
 have G1 := Lib.hid g1
 clear h1 g1 c1
 go_wp2_with fail
 refine (rtake_any g b _ _ _ H1.out hb (by omega)).mono ?_
 rintro e w2 ⟨rfl, h2, g2⟩
 have H2 := Lib.hid h2
 have G2 := Lib.hid (grown_trans G1.out g2)
 have d1 : w2.cell? ⟨g, 1, none⟩ = some (.int .i64 (rdR b.data.toList (rdU b.data.toList most s).1 (rdU b.data.toList most s).2).2.n) := h2.1.cell 1
 have d2 := h2.1.frozen 1
 clear h2 g2
 by_cases h0 : (rdR b.data.toList (rdU b.data.toList most s).1 (rdU b.data.toList most s).2).2.e = 0
 · have HP : Hid (rdT b.data.toList most s = rdR b.data.toList (rdU b.data.toList most s).1 (rdU b.data.toList most s).2) := Lib.hid (by rw [rdT, if_pos h0])
   rw [decide_eq_true h0]
   clear h0
   go_wp2
   go_ret
   rw [HP.out]
   exact ⟨rfl, H2.out, G2.out⟩
 · have HP : Hid (rdT b.data.toList most s = ([], ⟨s.n, (rdR b.data.toList (rdU b.data.toList most s).1 (rdU b.data.toList most s).2).2.e⟩)) := Lib.hid (by rw [rdT, if_neg h0])
   have HN : Hid ((rdR b.data.toList (rdU b.data.toList most s).1 (rdU b.data.toList most s).2).1 = []) := Lib.hid (by
    unfold rdR at h0 ⊢
    split
    · rename_i h1
      split
      · rfl
      · rename_i h2; rw [if_pos h1, if_neg h2] at h0; exact absurd rfl h0
    · rfl)
   rw [decide_eq_false h0, HN.out]
   clear h0
   go_wp2
   go_ret
   rw [HP.out]
   exact ⟨rfl, ⟨by exact H2.out.1.set_ 1 _, hn⟩, grown_trans G2.out (grown_set 1 _)⟩
theorem rerr_any (g : Nat) (b : ByteArray) (s : RS) (w : World) (h : Rdr w g b s) :
 Calls Try.prog 45 #[.pointer (some ⟨g, 0, none⟩)] w fun e w' => e = .returned (.int .i64 s.e) ∧ w = w' := by
 have c2 : w.cell? ⟨g, 2, none⟩ = some (.int .i64 s.e) := h.1.cell 2
 clear h
 go_enter Try.func45, Try.ntmps45
 go_wp2
 go_ret
 exact ⟨rfl, rfl⟩
theorem rfail_any (g : Nat) (b : ByteArray) (s : RS) (x : Int) (w : World) (h : Rdr w g b s) (he : s.e = 0) :
 Calls Try.prog 90 #[.pointer (some ⟨g, 0, none⟩), .int .i64 x] w fun e w' => e = .returned (.tuple #[]) ∧ Rdr w' g b ⟨s.n, x⟩ ∧ w.grownBy w' (some g) := by
 have c2 : w.cell? ⟨g, 2, none⟩ = some (.int .i64 0) := by rw [← he]; exact h.1.cell 2
 have d2 := h.1.frozen 2
 have H := Lib.hid h
 clear h he
 go_enter Try.func90, Try.ntmps90
 go_wp2
 go_end0
 exact ⟨rfl, ⟨by exact H.out.1.set_ 2 _, H.out.2⟩, grown_set 2 _⟩
def endP (b : List UInt8) (s : RS) : Int := if s.e = 0 ∧ s.n < b.length then 12 else s.e
theorem rend_any (g : Nat) (b : ByteArray) (s : RS) (w : World) (h : Rdr w g b s) :
 Calls Try.prog 97 #[.pointer (some ⟨g, 0, none⟩)] w fun e w' => e = .returned (.int .i64 (endP b.data.toList s)) ∧ Drawn w w' := by
 obtain ⟨n, er⟩ := s
 have c0 : w.cell? ⟨g, 0, none⟩ = some (.string b) := h.1.cell 0
 have c1 : w.cell? ⟨g, 1, none⟩ = some (.int .i64 n) := h.1.cell 1
 have c2 : w.cell? ⟨g, 2, none⟩ = some (.int .i64 er) := h.1.cell 2
 have H := Lib.hid h
 have hn : n ≤ b.size := h.2
 clear h
 by_cases he : er = 0
 · by_cases hl : n < b.size
   · have HP : Hid (endP b.data.toList ⟨n, er⟩ = 12) := Lib.hid (by rw [endP, if_pos ⟨he, hl⟩])
     subst he
     have l1 : decide ((n : Int) < (b.size : Int)) = true := by simp; omega
     have l2 : decide (n < b.size) = true := by simp; omega
     go_enter Try.func97, Try.ntmps97
     go_wp2
     go_quiet (fail)
     go_wp2
     go_ret
     exact ⟨by rw [HP.out]; rfl, ⟨_, rfl⟩⟩
   · have HP : Hid (endP b.data.toList ⟨n, er⟩ = 0) := Lib.hid (by rw [endP, if_neg (fun h => hl h.2)]; exact he)
     subst he
     have l1 : decide ((n : Int) < (b.size : Int)) = false := by simp; omega
     have l2 : decide (n < b.size) = false := by simp; omega
     go_enter Try.func97, Try.ntmps97
     go_wp2
     go_quiet (fail)
     go_wp2_with fail
     refine (rerr_any g b ⟨n, 0⟩ _ ⟨H.out.1.drewN _, H.out.2⟩).mono ?_
     rintro e w1 ⟨rfl, rfl⟩
     go_wp2
     go_ret
     exact ⟨by rw [HP.out]; rfl, ⟨_, rfl⟩⟩
 · have HP : Hid (endP b.data.toList ⟨n, er⟩ = er) := Lib.hid (by rw [endP, if_neg (fun h => he h.1)])
   have e1 : decide (er = 0) = false := by simpa using he
   have e2 : (er == 0) = false := by simpa using he
   clear he
   go_enter Try.func97, Try.ntmps97
   go_wp2
   go_quiet (fail)
   go_wp2_with fail
   refine (rerr_any g b ⟨n, er⟩ _ ⟨H.out.1.drewN _, H.out.2⟩).mono ?_
   rintro e w1 ⟨rfl, rfl⟩
   go_wp2
   go_ret
   exact ⟨by rw [HP.out]; rfl, ⟨_, rfl⟩⟩
end Go.Proofs.Ytljfigikkajlnaa
