/- DERIVED. SegmentWalks: the walk of the law. -/
import Derived.Test.YtejodabmddcanaaSegAwake
import Derived.Test.YtejodabmddcanaaSegWalkP
import Derived.Test.YtejodabmddcanaaSegLent2
import Derived.Test.YtejodabmddcanaaSegPatchP
import Derived.Laws.Concat
import Derived.Deep.LoopGhost
namespace Go.Proofs.Ytejodabmddcanaa
open Go.RowKit

/-- The piece that stands at a place of a list. -/
def pieceAt (l : List Ent) (i : Nat) : List Ent := (l.drop i).take 64
theorem pieceAt_len (l : List Ent) (i : Nat) (hi : i ≤ l.length) : (pieceAt l i).length = if i + 64 < l.length then 64 else l.length - i := by
  unfold pieceAt
  rw [List.length_take, List.length_drop]
  split <;> omega
theorem pieceAt_get (l : List Ent) (i k : Nat) (hk : k < (pieceAt l i).length) (h : i + k < l.length) : (pieceAt l i)[k] = l[i + k] := by
  simp only [pieceAt, List.getElem_take, List.getElem_drop]

section
variable {P : Program} {ops : Array Oper} {rest : List Oper} {o : Oper} {a : Act} {Q : Exit → Act → World → Prop}
/-- append([]Entry{}, x...): a twin of x, not nil. -/
theorem app_twin_some {W : World} {i : TypeInfo} {z : Value} (hgd : o.guard = none) (s x : Operand) (t : TypeId)
    (ho : o.op = .call { callee := .builtin .append, args := #[s, x], argTypes := #[t, t] })
    (ht : P.underlying t = some (.slice 53)) (hi : P.info? 53 = some i) (hz : i.zero = some z) (hsize : i.size = 2) (hby : i.bytes = 32) (hzs : z.cells.size = 2)
    (hs : a.eval s = .slice (some ⟨W.heap.size, 0, none⟩) 0 0) (A : Option Addr) (n c : Nat) (ys : List Ent) (hx : a.eval x = .slice A n c) (hn : n = ys.length) (hr : Rd W A ys)
    (hb : ys.length ≤ 4398046511104)
    (h : ∀ g cap w', Own w' W.heap.size (.slice (some ⟨g, 0, none⟩) ys.length cap) ys → ys.length ≤ cap → Below W.heap.size W w' → wpList P ops Q rest (a.put o.dst (.slice (some ⟨g, 0, none⟩) ys.length cap)) w') :
    wpList P ops Q (o :: rest) a (W.alloc (.cells #[] 53)) :=
  app_ents hgd s x t ho ht hi hz hsize hby hzs W.heap.size _ [] hs (Own.lit0 W W.heap.size (Nat.le_refl _)) A n c ys hx hn (hr.alloc _) (by simpa using hb) (by simp) fun v' w' h1 h2 h3 => by
    have hb := bl_of_grown ((Below.refl W.heap.size W).alloc (Nat.le_refl _) _) h2 (fun b hb => by cases hb; exact Nat.le_refl _)
    rcases h1.2 with ⟨e, _⟩ | ⟨g, cap, cur, e, _, _, h4, _⟩
    · subst e; rcases h3 with h3 | h3 <;> simp [Value.ownBlock] at h3
    · subst e; exact h g cap w' h1 (by simpa using h4) hb
end
attribute [local go_sem high] eq53
theorem key_small {l : List Ent} (h : listB l = true) : ∀ e ∈ l, e.key.size ≤ 32 := fun e he => by
  have hn : 0 < l.length := List.length_pos_of_mem he
  exact ((keyB_iff _).1 ((good_of_list h hn).1.2 e he).1).2
theorem piece_is {l : List Ent} {key : ByteArray} {k : Nat} (hb : listB l = true) (hc : cut l key = k) : pieceL l key = pieceAt l k := by
  simp [pieceL, hb, hc, pieceAt]
set_option maxRecDepth 100000 in
set_option maxHeartbeats 12800000 in
theorem walks_walk (A : Option Addr) (c : Nat) (l : List Ent) (w : World) (hr : Rd w A l) :
    Calls Try.prog 9 #[.slice A l.length c] w fun e w' => e = .returned (.bool true) ∧ Below w.heap.size w w' := by
  obtain ⟨i0, hi0, hz0, hz1, hz2⟩ := info_parts entry_info
  have hmax := hr.max
  have HR := Lib.hid hr
  clear hr
  go_enter Try.func9, Try.ntmps9
  go_wp2_with fail
  refine (awake_any _).mono ?_
  rintro e w1 ⟨rfl, hb_⟩
  have BL := Lib.hid hb_
  clear hb_
  go_wp2_with fail
  refine (refList_any A c l _ (HR.out.below BL.out)).mono ?_
  rintro e w2 ⟨rfl, hd_⟩
  have BL2 := Lib.hid (bl_drawn BL.out hd_)
  clear hd_ BL
  have HR2 := Lib.hid (HR.out.below BL2.out)
  by_cases hb : listB l = true
  · rw [hb]
    have HS := Lib.hid (rises_of_list hb)
    have HLB := Lib.hid hb
    clear hb
    go_wp2
    go_loopg [5, 6] l.length (fun gk s5 s6 wx => ∃ (k : Nat) (key : ByteArray), k ≤ l.length ∧ gk = l.length - k ∧ s5 = .string key ∧ s6 = .int .i64 k ∧ Hid (cut l key = k) ∧ Hid (Below w.heap.size w wx))
    case atStart => exact ⟨0, ⟨#[]⟩, Nat.zero_le _, rfl, rfl, rfl, Lib.hid (cut_first l), BL2⟩
    case round =>
      obtain ⟨k, key, hk, rfl, rfl, rfl, hcut, hbl⟩ := hrel
      have HR1 := Lib.hid (HR.out.below hbl.out)
      go_wp2_with (at_builtin; refine app_twin_some rfl (.tmp 30) (.tmp 31) _ rfl Try.underlying37 hi0 hz0 hz1 hz2 rfl rfl A l.length c l rfl rfl HR1.out hmax ?_; intro g cap w5 ho5 hcap hb5; have HB5 := Lib.hid (bl_then hbl.out hb5); have HO5 := Lib.hid (ho5.rd hmax).2; clear ho5 hb5)
      refine (segPiece_any ⟨g, 0, none⟩ cap l key _ HO5.out hcap).mono ?_
      rintro e w6 ⟨v6, rfl, ho6, hb6⟩
      have HB6 := Lib.hid (bl_then HB5.out hb6)
      have HO6 := Lib.hid ho6
      clear ho6 hb6 HO5 HB5
      rw [piece_is HLB.out hcut.out] at HO6
      have HPL := Lib.hid (pieceAt_len l k hk)
      obtain ⟨p, hp⟩ : ∃ p, p = pieceAt l k := ⟨_, rfl⟩
      have HP := Lib.hid (show p.length ≤ l.length - k ∧ ∀ j (hj : j < p.length) (h : k + j < l.length), p[j] = l[k + j] from ⟨by rw [hp, pieceAt_len l k hk]; split <;> omega, fun j hj h => by subst hp; exact pieceAt_get l k j hj h⟩)
      rw [← hp] at HO6
      by_cases hm : k + 64 < l.length
      · have hB : pieceB l key = true := by simp [pieceB, HLB.out, hcut.out, hm]
        have e1 : IntKind.i64.wrap ((k : Int) + 64) = (k : Int) + 64 := IntWalk.i64_in _ (by omega)
        have t1 : decide ((l.length : Int) < (k : Int) + 64) = false := by simp; omega
        have HPn : p.length = 64 := by rw [hp, HPL.out, if_pos hm]
        rw [hB]
        clear hB hp
        obtain ⟨A6, c6, rfl, hc6, r6⟩ := HO6.out.rd' (by omega)
        have R6 := Lib.hid r6
        have R7 := Lib.hid (HR.out.below HB6.out)
        clear r6 HO6
        rw [HPn]
        have c9 : wr = wr := rfl
        clear c9
        go_wp2
        go_loopg [9] 64 (fun gk s9 wx => ∃ j : Nat, j ≤ 64 ∧ gk = 64 - j ∧ s9 = .int .i64 j ∧ Hid (Drawn w6 wx))
        case atStart => exact ⟨0, Nat.zero_le _, rfl, rfl, Lib.hid (Drawn.refl _)⟩
        case round =>
          obtain ⟨j, hj, rfl, rfl, hd⟩ := hrel
          by_cases hlt : j < 64
          · have hp := HP.out.2 j (by omega) (by omega)
            have i0 : (0 : Int) ≤ (j : Int) := by omega
            have i1 : (j : Int) < 64 := by omega
            have i2 : (0 : Int) ≤ (k : Int) + (j : Int) := by omega
            have i3 : (k : Int) + (j : Int) < (l.length : Int) := by omega
            have e2 : IntKind.i64.wrap ((k : Int) + (j : Int)) = (k : Int) + (j : Int) := IntWalk.i64_in _ (by omega)
            have tn : ((k : Int) + (j : Int)).toNat = k + j := by omega
            obtain ⟨ad, e0, c0, c1⟩ := (hd.out.rd R6.out).at_ j (by omega)
            cases e0
            obtain ⟨bd, e0, d0, d1⟩ := (hd.out.rd R7.out).at_ (k + j) (by omega)
            cases e0
            rw [hp] at c0 c1
            clear hp
            generalize l[k + j] = e at c0 c1 d0 d1
            have q0 : (e.key.toList == e.key.toList) = true := by simp
            have q1 : (e.sum.toList == e.sum.toList) = true := by simp
            go_wp2
            go_quiet (fail)
            go_wp2
            go_roundg (64 - (j + 1))
            case measure => omega
            case rel => exact ⟨j + 1, by omega, rfl, by go_num, Lib.hid (hd.out.drewN _)⟩
          · obtain rfl : j = 64 := by omega
            clear hj hlt
            have ks : l[k + 63].key.size + 1 ≤ 9223372036854775807 := by have := key_small HLB.out (l[k + 63]) (List.getElem_mem _); omega
            have hAdd : ∀ W, (Op.stringOp .add l[k + 63].key ⟨#[0]⟩).run Try.prog W = .ok (.string (nextK l[k + 63].key)) W := fun W => run_string_add_sum W _ _ ks
            obtain ⟨ad, e0, c0, c1⟩ := (hd.out.rd R6.out).at_ 63 (by rw [HPn]; omega)
            cases e0
            have hp := HP.out.2 63 (by rw [HPn]; omega) (by omega)
            rw [hp] at c0 c1
            clear hp c1
            rw [show 63 * 2 = 126 from rfl, show ad.add 126 = ⟨ad.block, ad.off + 126, none⟩ from rfl] at c0
            go_wp2
            go_roundg (l.length - (k + 64))
            case measure => omega
            case rel => exact ⟨k + 64, nextK l[k + 63].key, by omega, rfl, rfl, by go_num, Lib.hid (cut_next HS.out (k + 63) (by omega)), Lib.hid (bl_drawn HB6.out hd.out)⟩
      · have hB : pieceB l key = false := by simp [pieceB, HLB.out, hcut.out]; omega
        obtain ⟨n, hn⟩ : ∃ n, n = l.length - k := ⟨_, rfl⟩
        have hkn : k + n = l.length := by omega
        have hn64 : n ≤ 64 := by omega
        have e1 : IntKind.i64.wrap ((k : Int) + (n : Int)) = (l.length : Int) := by rw [IntWalk.i64_in _ (by omega)]; omega
        have t1 : decide ((l.length : Int) < (l.length : Int)) = false := by simp
        have t2 : decide (64 < (n : Int)) = false := by simp; omega
        have t3 : decide (64 < n) = false := by simp; omega
        have t4 : ((l.length : Int) == (l.length : Int)) = true := by simp
        have HPn : p.length = n := by rw [hp, HPL.out, if_neg hm, hn]
        clear hn
        rw [hB]
        clear hB hp
        obtain ⟨A6, c6, rfl, hc6, r6⟩ := HO6.out.rd' (by omega)
        have R6 := Lib.hid r6
        have R7 := Lib.hid (HR.out.below HB6.out)
        clear r6 HO6
        rw [HPn]
        have c9 : wr = wr := rfl
        clear c9
        go_wp2
        go_loopg [9] n (fun gk s9 wx => ∃ j : Nat, j ≤ n ∧ gk = n - j ∧ s9 = .int .i64 j ∧ Hid (Drawn w6 wx))
        case atStart => exact ⟨0, Nat.zero_le _, rfl, rfl, Lib.hid (Drawn.refl _)⟩
        case round =>
          obtain ⟨j, hj, rfl, rfl, hd⟩ := hrel
          by_cases hlt : j < n
          · have hp := HP.out.2 j (by omega) (by omega)
            have i0 : (0 : Int) ≤ (j : Int) := by omega
            have i1 : (j : Int) < (n : Int) := by omega
            have i2 : (0 : Int) ≤ (k : Int) + (j : Int) := by omega
            have i3 : (k : Int) + (j : Int) < (l.length : Int) := by omega
            have e2 : IntKind.i64.wrap ((k : Int) + (j : Int)) = (k : Int) + (j : Int) := IntWalk.i64_in _ (by omega)
            have tn : ((k : Int) + (j : Int)).toNat = k + j := by omega
            obtain ⟨ad, e0, c0, c1⟩ := (hd.out.rd R6.out).at_ j (by omega)
            cases e0
            obtain ⟨bd, e0, d0, d1⟩ := (hd.out.rd R7.out).at_ (k + j) (by omega)
            cases e0
            rw [hp] at c0 c1
            clear hp
            generalize l[k + j] = e at c0 c1 d0 d1
            have q0 : (e.key.toList == e.key.toList) = true := by simp
            have q1 : (e.sum.toList == e.sum.toList) = true := by simp
            go_wp2
            go_quiet (fail)
            go_wp2
            go_roundg (n - (j + 1))
            case measure => omega
            case rel => exact ⟨j + 1, by omega, rfl, by go_num, Lib.hid (hd.out.drewN _)⟩
          · obtain rfl : j = n := by omega
            clear hj hlt
            go_wp2
            go_ret
            exact ⟨ret_bool (by simp), bl_drawn HB6.out hd.out⟩
  · have hb' : listB l = false := by simpa using hb
    rw [hb']
    go_wp2_with (at_builtin; refine app_twin_some rfl (.tmp 16) (.tmp 17) _ rfl Try.underlying37 hi0 hz0 hz1 hz2 rfl rfl A l.length c l rfl rfl HR2.out hmax ?_; intro g cap w5 ho5 hcap hb5; have HB5 := Lib.hid (bl_then BL2.out hb5); have HO5 := Lib.hid (ho5.rd hmax).2; clear ho5 hb5)
    refine (segPiece_any ⟨g, 0, none⟩ cap l _ _ HO5.out hcap).mono ?_
    rintro e w6 ⟨v6, rfl, ho6, hb6⟩
    have HB6 := Lib.hid (bl_then HB5.out hb6)
    have HO6 := Lib.hid ho6
    clear ho6 hb6 HO5 HB5
    rw [show pieceL l ⟨#[]⟩ = [] by simp [pieceL, hb']] at HO6
    rw [show pieceB l ⟨#[]⟩ = false by simp [pieceB, hb']]
    obtain ⟨A6, c6, rfl, hc6, r6⟩ := HO6.out.rd' (by simp)
    go_wp2
    go_ret
    exact ⟨ret_bool (by simp), HB6.out⟩
end Go.Proofs.Ytejodabmddcanaa
