/- DERIVED. The program's Unpack. -/
import Derived.Test.YtljfigikkajlnaaVm8
namespace Go.Proofs.Ytljfigikkajlnaa
open Go.RowKit Go.Lib
set_option linter.unusedVariables false
set_option linter.unusedSimpArgs false
theorem pre_bytes (n : Nat) : (prefS n).data.toList = [UInt8.ofNat (n / 256), UInt8.ofNat (n % 256)] := by
 rw [prefS, strOfNums_data]
 simp only [List.map_cons, List.map_nil]
 rw [show ((n : Int) / 256).toNat = n / 256 by omega, show ((n : Int) % 256).toNat = n % 256 by omega]
theorem two_of {L : List UInt8} (h : 2 ≤ L.length) : ∃ x y t, L = x :: y :: t := by
 match L, h with
 | x :: y :: t, _ => exact ⟨x, y, t, rfl⟩
theorem unp_key {k : ByteArray} (h : 2 ≤ k.size) : packK (kd k) = k ↔ n2 (k.data.toList.take 2) = placeN (kd k) := by
 obtain ⟨x, y, t, hL⟩ := two_of (show 2 ≤ k.data.toList.length from h)
 have hlt := (placeN_lt (kd k)).1
 obtain ⟨P, hP⟩ : ∃ P, placeN (kd k) = P := ⟨_, rfl⟩
 rw [hP] at hlt
 have hx := x.toNat_lt
 have hy := y.toNat_lt
 have e1 : (packK (kd k)).data.toList = UInt8.ofNat (P / 256) :: UInt8.ofNat (P % 256) :: t := by
  rw [packK, hP]
  have : (prefS P ++ kd k : ByteArray).data.toList = (prefS P).data.toList ++ (kd k).data.toList := by simp
  rw [this, pre_bytes, kdL, hL]
  rfl
 rw [hP, hL]
 show _ ↔ x.toNat * 256 + y.toNat = P
 constructor
 · intro e
   rw [← e, e1] at hL
   injection hL with h1 hL
   injection hL with h2 _
   rw [← h1, ← h2, UInt8.toNat_ofNat', UInt8.toNat_ofNat']
   omega
 · intro e
   apply ByteArray.ext
   apply Array.toList_inj.1
   rw [e1, hL, show P / 256 = x.toNat by omega, show P % 256 = y.toNat by omega, UInt8.ofNat_toNat, UInt8.ofNat_toNat]
theorem pack_no {key : ByteArray} {a : List Dot} {l : List Sib} (h : keyB key = false) : packE key a l ≠ 0 := by
 have : chkE key a l = 130 := by rw [chkE, h]; rfl
 rw [packE, if_neg (by rw [this]; decide), this]; decide
theorem sta_abs {a : List Dot} {l : List Sib} (h : staB a l = true) (h0 : a.length = 0) : absB a l = true := by
 have ha : a = [] := List.eq_nil_of_length_eq_zero h0
 subst ha
 have hl : l = [] := by
  match l, h with
  | [], _ => rfl
  | x :: l, h =>
   have h1 := ((sta_ok h).2.2 x (by simp)).1
   simp only [cov, cnt, look, Bool.and_eq_true, decide_eq_true_eq] at h1
   simp at h1
   omega
 subst hl
 rfl
theorem pack_abs {key : ByteArray} {a : List Dot} {l : List Sib} (h : staB a l = true) (h0 : a.length = 0) : packE key a l ≠ 0 := by
 rw [packE]
 split
 · rw [sta_abs h h0]; decide
 · assumption
theorem pack_big {key : ByteArray} {a : List Dot} {l : List Sib} (h : 280 < (encS a l).length) : packE key a l ≠ 0 := by
 rw [packE]
 split
 · rename_i h1
   have := (chk_cases h1).2.2
   omega
 · assumption
theorem pack_yes {key : ByteArray} {a : List Dot} {l : List Sib} (h1 : keyB key = true) (h2 : staB a l = true) (h3 : ¬ 280 < (encS a l).length) (h4 : a.length ≠ 0) : packE key a l = 0 := by
 have : chkE key a l = 0 := by rw [chkE, h1, h2]; simp [h3]
 rw [packE, if_pos this, if_neg (by simp [absB, h4])]
theorem absent_any (A C : Option Addr) (n c m d : Nat) (w : World) :
 Calls Try.prog 46 #[.agg #[.slice A n c, .slice C m d]] w fun e w' => e = .returned (.bool (decide (n = 0))) ∧ Below w.heap.size w w' := by
 by_cases h1 : n = 0
 · subst h1
   go_enter Try.func46, Try.ntmps46
   go_wp2
   go_ret
   exact ⟨rfl, (Below.refl _ _).alloc (Nat.le_refl _) _⟩
 · have e1 : ((n : Int) == 0) = false := by simp; omega
   have e2 : decide ((n : Int) = 0) = false := by simp; omega
   have e3 : decide (n = 0) = false := by simp; omega
   have e4 : (n == 0) = false := by simp; omega
   have HE := Lib.hid e3
   clear h1
   go_enter Try.func46, Try.ntmps46
   go_wp2
   go_ret
   exact ⟨by rw [HE.out]; rfl, (Below.refl _ _).alloc (Nat.le_refl _) _⟩
set_option maxRecDepth 100000 in
set_option maxHeartbeats 12800000 in
theorem unpack_any (k v : ByteArray) (w : World) (hk : k.size ≤ 140737488355328) (hv : v.size ≤ 140737488355328) :
 Calls Try.prog 22 #[.agg #[.string k, .string v]] w fun e w' => ∃ v1 v2, e = .returned (.tuple #[.agg #[.string (unpK k v), v1, v2], .int .i64 (unpE k v)]) ∧ OwnS w' w.heap.size v1 v2 (unpA k v) (unpL k v) ∧ Below w.heap.size w w' := by
 have dl := dec_lens v.data.toList
 obtain ⟨a, ha⟩ : ∃ a, decA v.data.toList = a := ⟨_, rfl⟩
 obtain ⟨l, hl⟩ : ∃ l, decL v.data.toList = l := ⟨_, rfl⟩
 rw [ha, hl] at dl
 have HA := Lib.hid ha
 have HL := Lib.hid hl
 have ja : a.length * 16 ≤ 140737488355328 := by omega
 have jl : l.length * 40 ≤ 140737488355328 := by omega
 clear ha hl
 go_enter Try.func22, Try.ntmps22
 go_wp2_with fail
 obtain ⟨W1, hW1⟩ : ∃ W1 : World, W1 = (w.alloc (.cells #[.string k, .string v] 48)).alloc (.cells #[.string ⟨#[]⟩, .slice none 0 0, .slice none 0 0] 27) := ⟨_, rfl⟩
 rw [← hW1]
 have LW : Hid (Below w.heap.size w W1) := Lib.hid (by rw [hW1]; exact (by repeat (first | exact Below.refl _ _ | refine bl_drewN ?_ _ | refine bl_drew ?_ | refine bl_alloc ?_ _)))
 have XC : Hid (GR.Blk W1 w.heap.size 48 #[.string k, .string v]) := Lib.hid (by rw [hW1]; exact (GR.Blk.new _ _ _).alloc _)
 have XR : Hid (GR.Blk W1 (w.heap.size + 1) 27 #[.string ⟨#[]⟩, .slice none 0 0, .slice none 0 0]) := Lib.hid (by rw [hW1]; exact new_at _ _ _ (by simp))
 clear hW1
 have hg0 : w.heap.size + 1 < W1.heap.size := XR.out.lt
 refine (newReader_any k W1).mono ?_
 rintro e w2 ⟨rfl, h2, hb⟩
 have D2 := Lib.hid h2
 have B2 := Lib.hid (bl_then LW.out hb)
 have C2 := Lib.hid (XC.out.below hb XC.out.lt)
 have R2 := Lib.hid (XR.out.below hb XR.out.lt)
 clear h2 hb
 go_wp2_with fail
 refine (rfixed2_any W1.heap.size k _ _ D2.out hk).mono ?_
 rintro e w3 ⟨rfl, h3, g3⟩
 have D3 := Lib.hid h3
 have B3 := Lib.hid (B2.out.trans ((chg_g g3).below B2.out.size (fun i e => by subst e; omega)))
 have C3 := Lib.hid (C2.out.grown g3 (fun e => by injection e with e; omega))
 have R3 := Lib.hid (R2.out.grown g3 (fun e => by injection e with e; omega))
 clear h3 g3
 by_cases h1 : k.size < 2
 · have hr : rdR k.data.toList 2 ⟨0, 0⟩ = ([], ⟨0, 10⟩) := by rw [rdR, if_pos rfl, if_pos (by show k.size - 0 < 2; omega)]
   rw [hr] at D3 ⊢
   have HV := Lib.hid (unp_no (show unpB k v = false by simp [unpB]; intro h; omega))
   clear hr
   go_wp2_with fail
   refine (rleft_any W1.heap.size k _ _ D3.out hk).mono ?_
   rintro e w4 ⟨rfl, hd⟩
   have L4 := Lib.hid (hd.below w3.heap.size)
   clear hd
   go_wp2_with fail
   refine (rraw_any W1.heap.size k _ _ _ (D3.out.below L4.out) hk (by omega)).mono ?_
   rintro e w5 ⟨rfl, h5, g5⟩
   have hr5 : rdR k.data.toList k.size ⟨0, 10⟩ = ([], ⟨0, 10⟩) := by rw [rdR, if_neg (by show ¬ (10 : Int) = 0; decide)]
   have D5 : Hid (Rdr w5 W1.heap.size k ⟨0, 10⟩) := Lib.hid (by have := h5; rw [hr5] at this; exact this)
   have B5 := Lib.hid ((bl_then B3.out L4.out).trans ((chg_g g5).below (bl_then B3.out L4.out).size (fun i e => by subst e; omega)))
   have C5 := Lib.hid ((C3.out.below L4.out C3.out.lt).grown g5 (fun e => by injection e with e; omega))
   have R5 := Lib.hid ((R3.out.below L4.out R3.out.lt).grown g5 (fun e => by injection e with e; omega))
   rw [hr5]
   clear h5 g5 hr5
   go_wp2_with fail
   refine (place_no ⟨#[]⟩ (by decide) _).mono ?_
   rintro e w6 ⟨rfl, rfl⟩
   have D6 := D5
   have B6 := B5
   have C6 := C5
   have R6 := R5
   have c1 : w5.cell? ⟨w.heap.size, 1, none⟩ = some (.string v) := C6.out.cell 1
   go_wp2_with fail
   clear c1
   refine (decode_any v _ hv).mono ?_
   rintro e w7 ⟨v1, v2, rfl, ho, hb⟩
   rw [HA.out, HL.out] at ho
   obtain ⟨A, n, c, rfl⟩ := own_slice ho.d ja
   obtain ⟨C, m, d, rfl⟩ := own_slice ho.s jl
   obtain rfl : n = a.length := own_n' ho.d
   obtain rfl : m = l.length := own_n' ho.s
   have O7 := Lib.hid (ho.base B6.out.size)
   have B7 := Lib.hid (bl_then B6.out hb)
   have C7 := Lib.hid (C6.out.below hb C6.out.lt)
   have R7 := Lib.hid (R6.out.below hb R6.out.lt)
   have D7 := Lib.hid (D6.out.below hb)
   clear ho hb
   obtain ⟨z, hz⟩ : ∃ z, decE v.data.toList = z := ⟨_, rfl⟩
   rw [hz]
   have HZ := Lib.hid hz
   clear hz
   go_wp2_with fail
   obtain ⟨W8, hW8⟩ : ∃ W8 : World, W8 = w7.alloc (.cells #[.slice A a.length c, .slice C l.length d] 25) := ⟨_, rfl⟩
   rw [← hW8]
   have L8 : Hid (Below w7.heap.size w7 W8) := Lib.hid (by rw [hW8]; exact (by repeat (first | exact Below.refl _ _ | refine bl_drewN ?_ _ | refine bl_drew ?_ | refine bl_alloc ?_ _)))
   have S8 : Hid (GR.Blk W8 w7.heap.size 25 #[.slice A a.length c, .slice C l.length d]) := Lib.hid (by rw [hW8]; exact GR.Blk.new _ _ _)
   clear hW8
   have B8 := Lib.hid (bl_then B7.out L8.out)
   have C8 := Lib.hid (C7.out.below L8.out C7.out.lt)
   have R8 := Lib.hid (R7.out.below L8.out R7.out.lt)
   have D8 := Lib.hid (D7.out.below L8.out)
   have O8 := Lib.hid (O7.out.below L8.out)
   have hrs : w.heap.size + 1 ≠ w7.heap.size := Nat.ne_of_lt R7.out.lt
   refine (rerr_any W1.heap.size k _ _ D8.out).mono ?_
   rintro e w_ ⟨rfl, rfl⟩
   have r0 : W8.cell? ⟨w.heap.size + 1, 0, none⟩ = some (.string ⟨#[]⟩) := R8.out.cell 0
   have r1 : W8.cell? ⟨w.heap.size + 1, 1, none⟩ = some (.slice none 0 0) := R8.out.cell 1
   have r2 : W8.cell? ⟨w.heap.size + 1, 2, none⟩ = some (.slice none 0 0) := R8.out.cell 2
   have f0 := R8.out.frozen 0
   have f1 := R8.out.frozen 1
   have f2 := R8.out.frozen 2
   go_wp2
   exact bodyPost_ret (v := .tuple #[.agg #[.string ⟨#[]⟩, .slice none 0 0, .slice none 0 0], .int .i64 4]) (by simp [results, Try.results22, go_sem, r0, r1, r2, f0, f1, f2]) rfl ⟨_, _, by rw [HV.out.2.2.2, HV.out.1], by rw [HV.out.2.1, HV.out.2.2.1]; exact ⟨GR.Own.nil _ _ _, GR.Own.nil _ _ _⟩, by
    repeat (first | exact B8.out | refine Below.setCell ?_ (by show w.heap.size ≤ w.heap.size + 1; omega) _)⟩
 · have hk2 : 2 ≤ k.size := by omega
   have HUB : Hid (unpB k v = (decB v.data.toList && decide (packE (kd k) a l = 0) && decide (packK (kd k) = k))) := Lib.hid (by rw [unpB, HA.out, HL.out, decide_eq_true hk2, Bool.true_and])
   have HUK := Lib.hid (unp_key hk2)
   have hlen : k.data.toList.length = k.size := rfl
   have hr : rdR k.data.toList 2 ⟨0, 0⟩ = (k.data.toList.take 2, ⟨2, 0⟩) := by rw [rdR, if_pos rfl, if_neg (by show ¬ k.size - 0 < 2; omega)]; rfl
   rw [hr] at D3 ⊢
   obtain ⟨N, hN⟩ : ∃ N, N = n2 (k.data.toList.take 2) := ⟨_, rfl⟩
   rw [← hN]
   have HN := Lib.hid hN
   clear hr hN h1
   go_wp2_with fail
   refine (rleft_any W1.heap.size k _ _ D3.out hk).mono ?_
   rintro e w4 ⟨rfl, hd⟩
   have L4 := Lib.hid (hd.below w3.heap.size)
   clear hd
   go_wp2_with fail
   refine (rraw_any W1.heap.size k _ _ _ (D3.out.below L4.out) hk (by omega)).mono ?_
   rintro e w5 ⟨rfl, h5, g5⟩
   have hr5 : rdR k.data.toList (k.size - 2) ⟨2, 0⟩ = ((k.data.toList.drop 2), ⟨2 + (k.size - 2), 0⟩) := by
    rw [rdR, if_pos rfl, if_neg (by show ¬ k.size - 2 < k.size - 2; omega)]
    congr 1
    exact List.take_of_length_le (by rw [List.length_drop, hlen]; exact Nat.le_refl _)
   have D5 : Hid (Rdr w5 W1.heap.size k ⟨2 + (k.size - 2), 0⟩) := Lib.hid (by have := h5; rw [hr5] at this; exact this)
   have B5 := Lib.hid ((bl_then B3.out L4.out).trans ((chg_g g5).below (bl_then B3.out L4.out).size (fun i e => by subst e; omega)))
   have C5 := Lib.hid ((C3.out.below L4.out C3.out.lt).grown g5 (fun e => by injection e with e; omega))
   have R5 := Lib.hid ((R3.out.below L4.out R3.out.lt).grown g5 (fun e => by injection e with e; omega))
   have hkd : (⟨(k.data.toList.drop 2).toArray⟩ : ByteArray) = kd k := by
    apply ByteArray.ext
    apply Array.toList_inj.1
    rw [kdL]
   rw [hr5]
   simp only
   rw [hkd]
   obtain ⟨K, hK⟩ : ∃ K, K = kd k := ⟨_, rfl⟩
   rw [← hK]
   have HK := Lib.hid hK
   clear h5 g5 hr5 hlen hkd hK
   by_cases hky : keyB K = true
   · have HKY := Lib.hid hky
     obtain ⟨P, hP⟩ : ∃ P, P = placeN K := ⟨_, rfl⟩
     have hlt : P < 4096 := by rw [hP]; exact (placeN_lt K).1
     have hPI : placeI K = (P : Int) := by rw [hP]; exact (placeN_lt K).2.symm
     have HPN := Lib.hid hP
     have HPI := Lib.hid hPI
     clear hP hPI hky
     go_wp2_with fail
     refine (place_yes K HKY.out _).mono ?_
     rintro e w6 ⟨rfl, hb⟩
     rw [HPI.out]
     have D6 := Lib.hid (D5.out.below hb)
     have B6 := Lib.hid (bl_then B5.out hb)
     have C6 := Lib.hid (C5.out.below hb C5.out.lt)
     have R6 := Lib.hid (R5.out.below hb R5.out.lt)
     clear hb
     have c1 : w6.cell? ⟨w.heap.size, 1, none⟩ = some (.string v) := C6.out.cell 1
     go_wp2_with fail
     clear c1
     refine (decode_any v _ hv).mono ?_
     rintro e w7 ⟨v1, v2, rfl, ho, hb⟩
     rw [HA.out, HL.out] at ho
     obtain ⟨A, n, c, rfl⟩ := own_slice ho.d ja
     obtain ⟨C, m, d, rfl⟩ := own_slice ho.s jl
     obtain rfl : n = a.length := own_n' ho.d
     obtain rfl : m = l.length := own_n' ho.s
     have O7 := Lib.hid (ho.base B6.out.size)
     have B7 := Lib.hid (bl_then B6.out hb)
     have C7 := Lib.hid (C6.out.below hb C6.out.lt)
     have R7 := Lib.hid (R6.out.below hb R6.out.lt)
     have D7 := Lib.hid (D6.out.below hb)
     clear ho hb
     obtain ⟨z, hz⟩ : ∃ z, decE v.data.toList = z := ⟨_, rfl⟩
     rw [hz]
     have HZ := Lib.hid hz
     clear hz
     go_wp2_with fail
     obtain ⟨W8, hW8⟩ : ∃ W8 : World, W8 = w7.alloc (.cells #[.slice A a.length c, .slice C l.length d] 25) := ⟨_, rfl⟩
     rw [← hW8]
     have L8 : Hid (Below w7.heap.size w7 W8) := Lib.hid (by rw [hW8]; exact (by repeat (first | exact Below.refl _ _ | refine bl_drewN ?_ _ | refine bl_drew ?_ | refine bl_alloc ?_ _)))
     have S8 : Hid (GR.Blk W8 w7.heap.size 25 #[.slice A a.length c, .slice C l.length d]) := Lib.hid (by rw [hW8]; exact GR.Blk.new _ _ _)
     clear hW8
     have B8 := Lib.hid (bl_then B7.out L8.out)
     have C8 := Lib.hid (C7.out.below L8.out C7.out.lt)
     have R8 := Lib.hid (R7.out.below L8.out R7.out.lt)
     have D8 := Lib.hid (D7.out.below L8.out)
     have O8 := Lib.hid (O7.out.below L8.out)
     have hrs : w.heap.size + 1 ≠ w7.heap.size := Nat.ne_of_lt R7.out.lt
     refine (rerr_any W1.heap.size k _ _ D8.out).mono ?_
     rintro e w_ ⟨rfl, rfl⟩
     have r0 : W8.cell? ⟨w.heap.size + 1, 0, none⟩ = some (.string ⟨#[]⟩) := R8.out.cell 0
     have r1 : W8.cell? ⟨w.heap.size + 1, 1, none⟩ = some (.slice none 0 0) := R8.out.cell 1
     have r2 : W8.cell? ⟨w.heap.size + 1, 2, none⟩ = some (.slice none 0 0) := R8.out.cell 2
     have f0 := R8.out.frozen 0
     have f1 := R8.out.frozen 1
     have f2 := R8.out.frozen 2
     by_cases h0 : z = 0
     · have hB : decB v.data.toList = true := by
        rcases decE_cases v.data.toList with ⟨h, _⟩ | ⟨_, h⟩
        · exact h
        · rw [HZ.out, h0] at h; omega
       have HB := Lib.hid hB
       have HEN := Lib.hid (show staB a l = true ∧ encS a l = v.data.toList by have := dec_enc v.data.toList hB; rw [HA.out, HL.out] at this; exact this)
       subst h0
       clear hB
       have e9 : IntKind.u64.wrap (P : Int) = (P : Int) := IntWalk.u64_in _ (by omega)
       by_cases hPN : P = N
       · have e1 : ((P : Int) != (N : Int)) = false := by simp [hPN]
         have e2 : decide ((P : Int) = (N : Int)) = true := by simp [hPN]
         have e3 : ((P : Int) == (N : Int)) = true := by simp [hPN]
         have HPNK := Lib.hid (show packK (kd k) = k from HUK.out.2 (by rw [← HN.out, ← hPN, HPN.out, HK.out]))
         clear hPN
         have m0 : W8.cell? ⟨w7.heap.size, 0, none⟩ = some (.slice A a.length c) := S8.out.cell 0
         have m1 : W8.cell? ⟨w7.heap.size, 1, none⟩ = some (.slice C l.length d) := S8.out.cell 1
         go_wp2_with fail
         clear m0 m1 r0 r1 r2 f0 f1 f2
         refine (absent_any A C a.length c l.length d _).mono ?_
         rintro e w9 ⟨rfl, hb⟩
         have B9 := Lib.hid (bl_then B8.out hb)
         have C9 := Lib.hid (C8.out.below hb C8.out.lt)
         have R9 := Lib.hid (R8.out.below hb R8.out.lt)
         have S9 := Lib.hid (S8.out.below hb S8.out.lt)
         have O9 := Lib.hid (O8.out.below hb)
         clear hb
         have r0 : w9.cell? ⟨w.heap.size + 1, 0, none⟩ = some (.string ⟨#[]⟩) := R9.out.cell 0
         have r1 : w9.cell? ⟨w.heap.size + 1, 1, none⟩ = some (.slice none 0 0) := R9.out.cell 1
         have r2 : w9.cell? ⟨w.heap.size + 1, 2, none⟩ = some (.slice none 0 0) := R9.out.cell 2
         have f0 := R9.out.frozen 0
         have f1 := R9.out.frozen 1
         have f2 := R9.out.frozen 2
         have c1 : w9.cell? ⟨w.heap.size, 1, none⟩ = some (.string v) := C9.out.cell 1
         have m0 : w9.cell? ⟨w7.heap.size, 0, none⟩ = some (.slice A a.length c) := S9.out.cell 0
         have m1 : w9.cell? ⟨w7.heap.size, 1, none⟩ = some (.slice C l.length d) := S9.out.cell 1
         by_cases ha0 : a.length = 0
         · have HV := Lib.hid (unp_no (show unpB k v = false by rw [HUB.out, decide_eq_false (pack_abs HEN.out.1 ha0)]; simp))
           rw [decide_eq_true ha0]
           clear ha0
           go_wp2
           exact bodyPost_ret (v := .tuple #[.agg #[.string ⟨#[]⟩, .slice none 0 0, .slice none 0 0], .int .i64 4]) (by simp [results, Try.results22, go_sem, r0, r1, r2, f0, f1, f2]) rfl ⟨_, _, by rw [HV.out.2.2.2, HV.out.1], by rw [HV.out.2.1, HV.out.2.2.1]; exact ⟨GR.Own.nil _ _ _, GR.Own.nil _ _ _⟩, by
            repeat (first | exact B9.out | refine Below.setCell ?_ (by show w.heap.size ≤ w.heap.size + 1; omega) _)⟩
         · rw [decide_eq_false ha0]
           have HA0 := Lib.hid ha0
           clear ha0
           have hvl : (encS a l).length = v.size := by rw [HEN.out.2]; rfl
           by_cases hvs : 280 < v.size
           · have HV := Lib.hid (unp_no (show unpB k v = false by rw [HUB.out, decide_eq_false (pack_big (by rw [hvl]; exact hvs))]; simp))
             have e4 : decide ((280 : Int) < (v.size : Int)) = true := by simp; omega
             have e5 : decide (280 < v.size) = true := by simp; omega
             clear hvs hvl
             go_wp2
             exact bodyPost_ret (v := .tuple #[.agg #[.string ⟨#[]⟩, .slice none 0 0, .slice none 0 0], .int .i64 4]) (by simp [results, Try.results22, go_sem, r0, r1, r2, f0, f1, f2]) rfl ⟨_, _, by rw [HV.out.2.2.2, HV.out.1], by rw [HV.out.2.1, HV.out.2.2.1]; exact ⟨GR.Own.nil _ _ _, GR.Own.nil _ _ _⟩, by
              repeat (first | exact B9.out | refine Below.setCell ?_ (by show w.heap.size ≤ w.heap.size + 1; omega) _)⟩
           · have HV := Lib.hid (unp_yes (show unpB k v = true by rw [HUB.out, HB.out, HPNK.out, ← HK.out, pack_yes HKY.out HEN.out.1 (by rw [hvl]; exact hvs) HA0.out]; simp))
             have e4 : decide ((280 : Int) < (v.size : Int)) = false := by simp; omega
             have e5 : decide (280 < v.size) = false := by simp; omega
             have OF : Hid (OwnS (((w9.setCell ⟨w.heap.size + 1, 0, none⟩ (.string K)).setCell ⟨w.heap.size + 1, 1, none⟩ (.slice A a.length c)).setCell ⟨w.heap.size + 1, 2, none⟩ (.slice C l.length d)) w.heap.size (.slice A a.length c) (.slice C l.length d) a l) := Lib.hid ⟨own_farI (own_farI (own_farI O9.out.d R9.out 0 _ (by decide)) (R9.out.set_ 0 _) 1 _ (by decide)) ((R9.out.set_ 0 _).set_ 1 _) 2 _ (by decide), own_farI (own_farI (own_farI O9.out.s R9.out 0 _ (by decide)) (R9.out.set_ 0 _) 1 _ (by decide)) ((R9.out.set_ 0 _).set_ 1 _) 2 _ (by decide)⟩
             clear hvs hvl
             go_wp2
             exact bodyPost_ret (v := .tuple #[.agg #[.string K, .slice A a.length c, .slice C l.length d], .int .i64 0]) (by simp [results, Try.results22, go_sem, r0, r1, r2, f0, f1, f2, hrs, m0, m1]) rfl ⟨_, _, by rw [HV.out.2.2.2, HV.out.1, HK.out], by rw [HV.out.2.1, HV.out.2.2.1, HA.out, HL.out]; exact OF.out, by
              repeat (first | exact B9.out | refine Below.setCell ?_ (by show w.heap.size ≤ w.heap.size + 1; omega) _)⟩
       · have HV := Lib.hid (unp_no (show unpB k v = false by rw [HUB.out, show decide (packK (kd k) = k) = false from decide_eq_false (fun e => hPN (by rw [HPN.out, HN.out, HK.out]; exact (HUK.out.1 e).symm))]; simp))
         have e1 : ((P : Int) != (N : Int)) = true := by simp; omega
         have e2 : decide ((P : Int) = (N : Int)) = false := by simp; omega
         have e3 : ((P : Int) == (N : Int)) = false := by simp; omega
         clear hPN
         go_wp2
         exact bodyPost_ret (v := .tuple #[.agg #[.string ⟨#[]⟩, .slice none 0 0, .slice none 0 0], .int .i64 4]) (by simp [results, Try.results22, go_sem, r0, r1, r2, f0, f1, f2]) rfl ⟨_, _, by rw [HV.out.2.2.2, HV.out.1], by rw [HV.out.2.1, HV.out.2.2.1]; exact ⟨GR.Own.nil _ _ _, GR.Own.nil _ _ _⟩, by
          repeat (first | exact B8.out | refine Below.setCell ?_ (by show w.heap.size ≤ w.heap.size + 1; omega) _)⟩
     · have HV := Lib.hid (unp_no (unp_dec (k := k) (show decB v.data.toList = false by
        rcases decE_cases v.data.toList with ⟨_, h⟩ | ⟨h, _⟩
        · rw [HZ.out] at h; exact absurd h h0
        · exact h)))
       have e1 : (z != 0) = true := by simpa using h0
       have e2 : decide (z = 0) = false := by simpa using h0
       clear h0
       go_wp2
       exact bodyPost_ret (v := .tuple #[.agg #[.string ⟨#[]⟩, .slice none 0 0, .slice none 0 0], .int .i64 4]) (by simp [results, Try.results22, go_sem, r0, r1, r2, f0, f1, f2]) rfl ⟨_, _, by rw [HV.out.2.2.2, HV.out.1], by rw [HV.out.2.1, HV.out.2.2.1]; exact ⟨GR.Own.nil _ _ _, GR.Own.nil _ _ _⟩, by
        repeat (first | exact B8.out | refine Below.setCell ?_ (by show w.heap.size ≤ w.heap.size + 1; omega) _)⟩
   · have hky' : keyB K = false := by simpa using hky
     have HKY := Lib.hid hky'
     have HV := Lib.hid (unp_no (show unpB k v = false by rw [HUB.out, ← HK.out, decide_eq_false (pack_no hky')]; simp))
     clear hky hky'
     go_wp2_with fail
     refine (place_no K HKY.out _).mono ?_
     rintro e w6 ⟨rfl, rfl⟩
     have D6 := D5
     have B6 := B5
     have C6 := C5
     have R6 := R5
     have c1 : w5.cell? ⟨w.heap.size, 1, none⟩ = some (.string v) := C6.out.cell 1
     go_wp2_with fail
     clear c1
     refine (decode_any v _ hv).mono ?_
     rintro e w7 ⟨v1, v2, rfl, ho, hb⟩
     rw [HA.out, HL.out] at ho
     obtain ⟨A, n, c, rfl⟩ := own_slice ho.d ja
     obtain ⟨C, m, d, rfl⟩ := own_slice ho.s jl
     obtain rfl : n = a.length := own_n' ho.d
     obtain rfl : m = l.length := own_n' ho.s
     have O7 := Lib.hid (ho.base B6.out.size)
     have B7 := Lib.hid (bl_then B6.out hb)
     have C7 := Lib.hid (C6.out.below hb C6.out.lt)
     have R7 := Lib.hid (R6.out.below hb R6.out.lt)
     have D7 := Lib.hid (D6.out.below hb)
     clear ho hb
     obtain ⟨z, hz⟩ : ∃ z, decE v.data.toList = z := ⟨_, rfl⟩
     rw [hz]
     have HZ := Lib.hid hz
     clear hz
     go_wp2_with fail
     obtain ⟨W8, hW8⟩ : ∃ W8 : World, W8 = w7.alloc (.cells #[.slice A a.length c, .slice C l.length d] 25) := ⟨_, rfl⟩
     rw [← hW8]
     have L8 : Hid (Below w7.heap.size w7 W8) := Lib.hid (by rw [hW8]; exact (by repeat (first | exact Below.refl _ _ | refine bl_drewN ?_ _ | refine bl_drew ?_ | refine bl_alloc ?_ _)))
     have S8 : Hid (GR.Blk W8 w7.heap.size 25 #[.slice A a.length c, .slice C l.length d]) := Lib.hid (by rw [hW8]; exact GR.Blk.new _ _ _)
     clear hW8
     have B8 := Lib.hid (bl_then B7.out L8.out)
     have C8 := Lib.hid (C7.out.below L8.out C7.out.lt)
     have R8 := Lib.hid (R7.out.below L8.out R7.out.lt)
     have D8 := Lib.hid (D7.out.below L8.out)
     have O8 := Lib.hid (O7.out.below L8.out)
     have hrs : w.heap.size + 1 ≠ w7.heap.size := Nat.ne_of_lt R7.out.lt
     refine (rerr_any W1.heap.size k _ _ D8.out).mono ?_
     rintro e w_ ⟨rfl, rfl⟩
     have r0 : W8.cell? ⟨w.heap.size + 1, 0, none⟩ = some (.string ⟨#[]⟩) := R8.out.cell 0
     have r1 : W8.cell? ⟨w.heap.size + 1, 1, none⟩ = some (.slice none 0 0) := R8.out.cell 1
     have r2 : W8.cell? ⟨w.heap.size + 1, 2, none⟩ = some (.slice none 0 0) := R8.out.cell 2
     have f0 := R8.out.frozen 0
     have f1 := R8.out.frozen 1
     have f2 := R8.out.frozen 2
     go_wp2
     exact bodyPost_ret (v := .tuple #[.agg #[.string ⟨#[]⟩, .slice none 0 0, .slice none 0 0], .int .i64 4]) (by simp [results, Try.results22, go_sem, r0, r1, r2, f0, f1, f2]) rfl ⟨_, _, by rw [HV.out.2.2.2, HV.out.1], by rw [HV.out.2.1, HV.out.2.2.1]; exact ⟨GR.Own.nil _ _ _, GR.Own.nil _ _ _⟩, by
      repeat (first | exact B8.out | refine Below.setCell ?_ (by show w.heap.size ≤ w.heap.size + 1; omega) _)⟩
end Go.Proofs.Ytljfigikkajlnaa
