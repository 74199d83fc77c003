/- DERIVED. Peel: what is taken out of a sketch. -/
import Derived.Test.YtpklkjekkbpeoaaSkPure
import Derived.Test.YtpklkjekkbpeoaaSkSort
import Derived.Test.YtpklkjekkbpeoaaSkMinus
import Derived.Test.YtpklkjekkbpeoaaDvOwn
import Derived.Test.YtpklkjekkbpeoaaWEqStruct
namespace Go.Proofs.Ytpklkjekkbpeoaa
open Go.RowKit Go.Proofs.YtpklkjekkbpeoaaW.PrintWords
set_option linter.unusedVariables false
set_option linter.unusedSimpArgs false
attribute [local irreducible] mixN

theorem eqC (d : Nat) (w : World) (a : Cel) :
    (Op.equalIn (d + 2) 81 (.agg #[.int .i16 a.n.toInt, .int .u64 (a.x.toNat : Int), .int .u32 (a.h.toNat : Int)]) (.agg #[.int .i16 0, .int .u64 0, .int .u32 0])).run Try.prog w = .ok (a == zc) w := by
  have : (a == zc) = ((a.n.toInt == 0) && (((a.x.toNat : Int) == 0) && ((a.h.toNat : Int) == 0))) := by
    rw [Bool.eq_iff_iff]
    simp only [beq_iff_eq, Bool.and_eq_true]
    constructor
    · rintro rfl; exact ⟨rfl, rfl, rfl⟩
    · rintro ⟨h1, h2, h3⟩
      obtain ⟨n, x, h⟩ := a
      have e1 : n = 0 := BitVec.eq_of_toInt_eq (h1.trans (by decide))
      have e2 : x = 0 := BitVec.eq_of_toNat_eq (by simp only at h2; simp; omega)
      have e3 : h = 0 := BitVec.eq_of_toNat_eq (by simp only at h3; simp; omega)
      rw [e1, e2, e3]; rfl
  rw [this]
  refine eqA_of Try.underlying81 (by kernel_rfl) ?_
  refine eqf_cons (by rfl) (by go_simp; rfl) (by go_simp; rfl) (by go_simp) ?_
  refine eqf_cons (by rfl) (by go_simp; rfl) (by go_simp; rfl) (by go_simp) ?_
  exact eqf_last (by rfl) (by go_simp; rfl) (by go_simp; rfl) (by go_simp)
attribute [local go_sem high] eqC

theorem skt_grown {w w' : World} {B g c cap B' : Nat} {L : List Cel} {v : Value} {m : List It} (h : Skt w B g c cap L) (ho : GR.Own itK w B' v m) (hg : w.grownBy w' v.ownBlock) : Skt w' B g c cap L :=
  ⟨h.b.grown hg (fun e => GR.own_blk_ne ho h.b (by decide) e.symm), h.o.grown hg (own_apart h.o ho (by decide)), h.n3, h.n2⟩
def Ap (u v : Value) : Prop := u.ownBlock = none ∨ v.ownBlock = none ∨ u.ownBlock ≠ v.ownBlock
theorem Ap.symm {u v : Value} (h : Ap u v) : Ap v u := by
  rcases h with h | h | h
  · exact .inr (.inl h)
  · exact .inl h
  · exact .inr (.inr fun e => h e.symm)
theorem Ap.keep {u v : Value} (h : Ap u v) : v.ownBlock = none ∨ v.ownBlock ≠ u.ownBlock := by
  rcases h with h | h | h
  · rcases e : v.ownBlock with _ | b
    · exact .inl rfl
    · exact .inr (by rw [h]; simp)
  · exact .inl h
  · exact .inr fun e => h e.symm
theorem Ap.step {u v u' : Value} {w : World} {B : Nat} {l : List It} (h : Ap u v) (hv : GR.Own itK w B v l) (hu : u'.ownBlock = u.ownBlock ∨ ∃ b, u'.ownBlock = some b ∧ w.heap.size ≤ b) : Ap u' v := by
  rcases hu with hu | ⟨b, hb, hs⟩
  · unfold Ap; rw [hu]; exact h
  · refine .inr (.inr fun e => ?_)
    have := (hv.lt b (by rw [← e, hb])).2
    omega
theorem it_far {w w' : World} {B B' c cap n : Nat} {v : Value} {m : List It} {L : List Cel} (h : GR.Own itK w B v m) (ho : GR.Own celK w B' (.slice (some ⟨c, 0, none⟩) n cap) L) (hg : w.grownBy w' (some c)) : GR.Own itK w' B v m :=
  h.grown hg (by have := own_apart h ho (by decide); simpa [Value.ownBlock] using this)
theorem it_len {w : World} {B n c : Nat} {A : Option Addr} {l : List It} (h : GR.Own itK w B (.slice A n c) l) : n = l.length := by
  rcases h.2 with ⟨hv, h0⟩ | ⟨_, _, _, hv, _⟩
  · injection hv with _ h1 _; omega
  · injection hv
theorem it_slice {w : World} {B : Nat} {v : Value} {m : List It} (h : GR.Own itK w B v m) (hm : m.length ≤ 256) : ∃ A c, v = .slice A m.length c := by
  obtain ⟨A, c, e, _⟩ := h.rd' (by show m.length * 8 ≤ _; omega)
  exact ⟨A, c, e⟩
set_option maxRecDepth 100000 in
set_option maxHeartbeats 25600000 in
theorem peel_any (B g c cap : Nat) (L : List Cel) (m' l' : List It) (w : World) (hs : Skt w B g c cap L) (hm : SortOk (peelN L.length L [] []).2.1 m') (hl : SortOk (peelN L.length L [] []).2.2 l') :
    Calls Try.prog 15 #[.pointer (some ⟨g, 0, none⟩)] w fun e w' => ∃ A1 c1 A2 c2, e = .returned (.tuple #[.slice A1 m'.length c1, .slice A2 l'.length c2, .bool (zeroB (peelN L.length L [] []).1)]) ∧
      GR.Own itK w' w.heap.size (.slice A1 m'.length c1) m' ∧ GR.Own itK w' w.heap.size (.slice A2 l'.length c2) l' ∧ Below w.heap.size w w' := by
  obtain ⟨i0, hi0, hz0, hz1, hz2⟩ := info_parts it_info
  have hc := cloneC_any c cap B L w (by have := hs.n3; omega) hs.n2 hs.o
  have c0 : w.cell? ⟨g, 0, none⟩ = some (.slice (some ⟨c, 0, none⟩) L.length cap) := hs.b.cell 0
  have n2 := hs.n2
  have HS := Lib.hid hs
  have HM := Lib.hid hm
  have HL := Lib.hid hl
  obtain ⟨PN, hPN⟩ : ∃ PN, PN = peelN L.length L [] [] := ⟨_, rfl⟩
  rw [← hPN] at HM HL ⊢
  obtain ⟨B0, hB0⟩ : ∃ B0, B0 = w.heap.size := ⟨_, rfl⟩
  rw [← hB0] at hc ⊢
  have HP := Lib.hid hPN
  clear hs hm hl hPN
  go_enter Try.func15, Try.ntmps15
  go_wp2_with (go_at_call 39; refine (hc).mono ?_; rintro e w1 ⟨d, e2, rfl, h1, h2⟩; have O1 := Lib.hid h1; have B1 := Lib.hid (show Below w.heap.size w w1 from by rw [← hB0]; exact h2); clear h1 h2; have c1' : w1.cell? ⟨g, 0, none⟩ = some (.slice (some ⟨c, 0, none⟩) L.length cap) := (B1.out.cell HS.out.b.lt).trans c0; have hs1 : w.heap.size ≤ w1.heap.size := B1.out.size; have hg2 : g < w1.heap.size := Nat.lt_of_lt_of_le HS.out.b.lt hs1)
  obtain ⟨G, hG⟩ : ∃ G, G = w1.heap.size := ⟨_, rfl⟩
  obtain ⟨w2, hw2⟩ : ∃ w2, w2 = w1.alloc (.cells #[.slice (some ⟨d, 0, none⟩) L.length e2] 77) := ⟨_, rfl⟩
  have XS : Hid (Skt w2 B0 G d e2 L) := Lib.hid ⟨by rw [hw2]; exact newAt _ _ hG.symm, by rw [hw2]; exact O1.out.alloc _, HS.out.n3, HS.out.n2⟩
  have XB : Hid (Below w.heap.size w w2) := Lib.hid (by rw [hw2]; exact bl_alloc B1.out _)
  have hBd : B0 ≤ d := XS.out.clt.1
  rw [← hG, ← hw2]
  clear hG hw2 c1' hs1 hg2 O1 B1 hc c0
  have HB0 := Lib.hid hB0
  clear hB0
  obtain ⟨N, hN⟩ : ∃ N, N = L.length := ⟨_, rfl⟩
  rw [← hN] at n2 HP ⊢
  have HN := Lib.hid hN
  clear hN
  go_loopw [2, 3, 24] (fun mv lv i w' => ∃ (k : Nat) (Lk : List Cel) (m l : List It) (A1 : Option Addr) (c1 : Nat) (A2 : Option Addr) (c2 : Nat), k ≤ N ∧ i = .int .i64 k ∧ mv = .slice A1 m.length c1 ∧ lv = .slice A2 l.length c2 ∧
    Hid (GR.Own itK w' B0 (.slice A1 m.length c1) m) ∧ Hid (GR.Own itK w' B0 (.slice A2 l.length c2) l) ∧ Hid (Ap (.slice A1 m.length c1) (.slice A2 l.length c2)) ∧ Hid (Skt w' B0 G d e2 Lk) ∧ Hid (Lk.length = N) ∧ Hid (peelN (N - k) Lk m l = PN) ∧ Hid (m.length + l.length ≤ k) ∧ Hid (Below w.heap.size w w')) (fun _ _ i _ => N - (intOf i).toNat)
  case atStart => exact ⟨0, L, [], [], none, 0, none, 0, Nat.zero_le _, rfl, rfl, rfl, Lib.hid (GR.Own.nil _ _ _), Lib.hid (GR.Own.nil _ _ _), Lib.hid (.inl rfl), XS, Lib.hid HN.out.symm, Lib.hid HP.out.symm, Lib.hid (Nat.le_refl _), XB⟩
  case round =>
    obtain ⟨W0, hw_⟩ : ∃ x : World, x = wr := ⟨_, rfl⟩
    subst hw_
    obtain ⟨k, Lk, m, l, A1, c1, A2, c2, hk, rfl, rfl, rfl, om, ol, ap, sk, lk, pk, ml, bb⟩ := hrel
    clear XS XB
    by_cases hlt : k < N
    · have c0 : W0.cell? ⟨G, 0, none⟩ = some (.slice (some ⟨d, 0, none⟩) N e2) := by have := sk.out.b.cell 0; rw [lk.out] at this; exact this
      have hGW := sk.out.b.lt
      go_wp2_with fail
      go_loopw [6] (fun i w' => ∃ j : Nat, j ≤ N ∧ i = .int .i64 j ∧ Hid (∀ t, t < j → pureB Lk t = false) ∧ Hid (Below W0.heap.size W0 w')) (fun i _ => N - (intOf i).toNat)
      case atStart => exact ⟨0, Nat.zero_le _, rfl, Lib.hid (fun t h => absurd h (Nat.not_lt_zero _)), Lib.hid (Below.refl _ _)⟩
      case round =>
        obtain ⟨W1, hw_⟩ : ∃ x : World, x = wr := ⟨_, rfl⟩
        subst hw_
        obtain ⟨j, hj, rfl, np, bj⟩ := hrel
        have sk1 := Lib.hid (sk.out.below bj.out)
        have c1' : W1.cell? ⟨G, 0, none⟩ = some (.slice (some ⟨d, 0, none⟩) N e2) := (bj.out.cell hGW).trans c0
        by_cases hjl : j < N
        · have hpure := pure_any B0 G d e2 Lk j (by rw [lk.out]; exact hjl) W1 sk1.out
          rcases hp : pureB Lk j with _ | _
          · rw [hp] at hpure
            have HNP := Lib.hid hp
            clear hp
            go_wp2_with (go_at_call 40; refine (hpure).mono ?_; rintro e w3 ⟨rfl, hb3⟩; have B3 := Lib.hid hb3; clear hb3)
            go_roundw
            case rel => exact ⟨j + 1, by omega, by go_num, Lib.hid (fun t ht => by rcases Nat.lt_succ_iff_lt_or_eq.1 ht with h | rfl; exact np.out t h; exact HNP.out), Lib.hid (bl_then bj.out B3.out)⟩
            case measure => simp [intOf]; omega
          · rw [hp] at hpure
            have HIP := Lib.hid hp
            clear hp
            have hne : ¬ ((j : Int) = (N : Int)) := by omega
            have i0 : (0 : Int) ≤ (j : Int) := by omega
            have i1 : (j : Int) < (N : Int) := by omega
            obtain ⟨y, hy⟩ : ∃ y, y = Lk[j]'(by rw [lk.out]; exact hjl) := ⟨_, rfl⟩
            have HY := Lib.hid hy
            clear hy
            go_upto_region 10 with (go_at_call 40; refine (hpure).mono ?_; rintro e w3 ⟨rfl, hb3⟩; have B3 := Lib.hid (bl_then bj.out hb3); clear hb3; have c3' : w3.cell? ⟨G, 0, none⟩ = some (.slice (some ⟨d, 0, none⟩) N e2) := (B3.out.cell hGW).trans c0)
            have sk3 := Lib.hid (sk.out.below B3.out)
            obtain ⟨⟨a0, a1, a2⟩, _⟩ := cel_at sk3.out.o j (by rw [lk.out]; exact hjl) y HY.out.symm
            go_upto_region 11 with fail
            obtain ⟨H, hH⟩ : ∃ H, H = w3.heap.size := ⟨_, rfl⟩
            obtain ⟨w4, hw4⟩ : ∃ w4, w4 = w3.alloc (.cells #[.int .i16 y.n.toInt, .int .u64 (y.x.toNat : Int), .int .u32 (y.h.toNat : Int)] 81) := ⟨_, rfl⟩
            rw [← hH, ← hw4]
            have yg : Hid (GR.Blk w4 H 81 #[.int .i16 y.n.toInt, .int .u64 (y.x.toNat : Int), .int .u32 (y.h.toNat : Int)]) := Lib.hid (by rw [hw4]; exact newAt _ _ hH.symm)
            have B4 : Hid (Below W0.heap.size W0 w4) := Lib.hid (by rw [hw4]; exact bl_alloc B3.out _)
            have om4 := Lib.hid (om.out.below B4.out)
            have ol4 := Lib.hid (ol.out.below B4.out)
            have sk4 := Lib.hid (sk.out.below B4.out)
            have bb4 := Lib.hid (bl_then bb.out B4.out)
            have hB4 : B0 ≤ w4.heap.size := by have := sk4.out.clt.2; omega
            have b0 : w4.cell? ⟨H, 0, none⟩ = some (.int .i16 y.n.toInt) := yg.out.cell 0
            have b1 : w4.cell? ⟨H, 1, none⟩ = some (.int .u64 (y.x.toNat : Int)) := yg.out.cell 1
            have hml : m.length + l.length ≤ k := ml.out
            clear hw4 hH a0 a1 a2 c3' c1' bj sk1 sk3 hpure
            have hq : y.n = 1 ∨ y.n = -1 := by
              have h := HIP.out
              unfold pureB at h
              rw [List.getD_eq_getElem?_getD, List.getElem?_eq_getElem (by rw [lk.out]; exact hjl), Option.getD_some, ← HY.out] at h
              simp only [Bool.and_eq_true, Bool.or_eq_true, beq_iff_eq] at h
              exact h.1.1
            have hD : Lk.getD j zc = y := by rw [List.getD_eq_getElem?_getD, List.getElem?_eq_getElem (by rw [lk.out]; exact hjl), Option.getD_some, ← HY.out]
            have hF : firstP Lk = some j := firstP_some (by rw [lk.out]; exact hjl) HIP.out np.out
            obtain ⟨r, hr⟩ : ∃ r, N - k = r + 1 := ⟨N - k - 1, by omega⟩
            have hr' : N - (k + 1) = r := by omega
            rcases hq with hq | hq
            · skip
              have hn : y.n.toInt = 1 := by rw [hq]; decide
              go_upto_region 12 with fail
              have HQ := Lib.hid hq
              clear hq
              go_upto_region 14 with (at_builtin; refine GR.app_one (K := itK) rfl (.tmp 58) (.tmp 61) _ rfl Try.underlying33 hi0 hz0 hz1 hz2 rfl B0 _ m y.x rfl om4.out rfl (by show (m.length + 1) * 8 ≤ _; omega) hB4 ?_; intro v5 w5 ho5 hg5 hat5; have O5 := Lib.hid ho5; have G5 := Lib.hid hg5; have AT5 := Lib.hid hat5; clear ho5 hg5 hat5)
              have sk5 := Lib.hid (skt_grown sk4.out om4.out G5.out)
              have Y5 := Lib.hid (yg.out.grown G5.out (fun e => GR.own_blk_ne om4.out yg.out (by decide) e.symm))
              have R5 := Lib.hid (ol4.out.grown G5.out (ap.out.keep))
              have P5 := Lib.hid (Ap.step ap.out ol4.out AT5.out)
              have bb5 := Lib.hid (Below.grown bb4.out G5.out (by have := bb4.out.size; omega) (fun b hb => by have := (om4.out.lt b hb).1; rw [← HB0.out]; exact this))
              obtain ⟨A5, c5, rfl⟩ := it_slice O5.out (by simp only [List.length_append, List.length_cons, List.length_nil]; omega)
              have b0 : w5.cell? ⟨H, 0, none⟩ = some (.int .i16 y.n.toInt) := Y5.out.cell 0
              have b1 : w5.cell? ⟨H, 1, none⟩ = some (.int .u64 (y.x.toNat : Int)) := Y5.out.cell 1
              rw [hn] at b0
              have hlay := lay_any y.x (-1) B0 G d e2 Lk sk5.out.n3 sk5.out.n2 w5 sk5.out.b sk5.out.o
              rw [show (-1 : BitVec 16).toInt = -1 from by decide] at hlay
              go_wp2_with (go_at_call 38; refine (hlay).mono ?_; rintro e w6 ⟨rfl, ho6, hg6⟩; have O6 := Lib.hid ho6; have G6 := Lib.hid hg6; clear ho6 hg6)
              go_roundw
              case rel =>
                have hp2 : peelN (N - (k + 1)) (layC y.x (-1) Lk) (m ++ [y.x]) l = PN := by
                  have := pk.out
                  rw [hr, peelN_more hF (by rw [hD]; exact HQ.out), hD] at this
                  rw [hr']; exact this
                exact ⟨k + 1, layC y.x (-1) Lk, m ++ [y.x], l, A5, c5, A2, c2, by omega, by go_num, (by rw [List.length_append]; rfl), rfl, Lib.hid (it_far O5.out sk5.out.o G6.out), Lib.hid (it_far R5.out sk5.out.o G6.out), P5, Lib.hid (sk5.out.laid (by simp) O6.out G6.out), Lib.hid (by rw [layC_length]; exact lk.out), Lib.hid hp2, Lib.hid (by simp only [List.length_append, List.length_cons, List.length_nil]; omega),
                  Lib.hid (Below.grown bb5.out G6.out (by have := bb5.out.size; omega) (fun b hb => by cases hb; rw [← HB0.out]; exact hBd))⟩
              case measure => simp [intOf]; omega
            · skip
              have hn : y.n.toInt = -1 := by rw [hq]; decide
              go_upto_region 13 with fail
              have HQ := Lib.hid hq
              clear hq
              go_upto_region 14 with (at_builtin; refine GR.app_one (K := itK) rfl (.tmp 63) (.tmp 66) _ rfl Try.underlying33 hi0 hz0 hz1 hz2 rfl B0 _ l y.x rfl ol4.out rfl (by show (l.length + 1) * 8 ≤ _; omega) hB4 ?_; intro v5 w5 ho5 hg5 hat5; have O5 := Lib.hid ho5; have G5 := Lib.hid hg5; have AT5 := Lib.hid hat5; clear ho5 hg5 hat5)
              have sk5 := Lib.hid (skt_grown sk4.out ol4.out G5.out)
              have Y5 := Lib.hid (yg.out.grown G5.out (fun e => GR.own_blk_ne ol4.out yg.out (by decide) e.symm))
              have R5 := Lib.hid (om4.out.grown G5.out (ap.out.symm.keep))
              have P5 := Lib.hid (Ap.step ap.out.symm om4.out AT5.out)
              have bb5 := Lib.hid (Below.grown bb4.out G5.out (by have := bb4.out.size; omega) (fun b hb => by have := (ol4.out.lt b hb).1; rw [← HB0.out]; exact this))
              obtain ⟨A5, c5, rfl⟩ := it_slice O5.out (by simp only [List.length_append, List.length_cons, List.length_nil]; omega)
              have b0 : w5.cell? ⟨H, 0, none⟩ = some (.int .i16 y.n.toInt) := Y5.out.cell 0
              have b1 : w5.cell? ⟨H, 1, none⟩ = some (.int .u64 (y.x.toNat : Int)) := Y5.out.cell 1
              rw [hn] at b0
              have hlay := lay_any y.x 1 B0 G d e2 Lk sk5.out.n3 sk5.out.n2 w5 sk5.out.b sk5.out.o
              rw [show (1 : BitVec 16).toInt = 1 from by decide] at hlay
              go_wp2_with (go_at_call 38; refine (hlay).mono ?_; rintro e w6 ⟨rfl, ho6, hg6⟩; have O6 := Lib.hid ho6; have G6 := Lib.hid hg6; clear ho6 hg6)
              go_roundw
              case rel =>
                have hp2 : peelN (N - (k + 1)) (layC y.x 1 Lk) m (l ++ [y.x]) = PN := by
                  have := pk.out
                  rw [hr, peelN_less hF (by rw [hD, HQ.out]; decide), hD] at this
                  rw [hr']; exact this
                exact ⟨k + 1, layC y.x 1 Lk, m, l ++ [y.x], A1, c1, A5, c5, by omega, by go_num, rfl, (by rw [List.length_append]; rfl), Lib.hid (it_far R5.out sk5.out.o G6.out), Lib.hid (it_far O5.out sk5.out.o G6.out), Lib.hid P5.out.symm, Lib.hid (sk5.out.laid (by simp) O6.out G6.out), Lib.hid (by rw [layC_length]; exact lk.out), Lib.hid hp2, Lib.hid (by simp only [List.length_append, List.length_cons, List.length_nil]; omega),
                  Lib.hid (Below.grown bb5.out G6.out (by have := bb5.out.size; omega) (fun b hb => by cases hb; rw [← HB0.out]; exact hBd))⟩
              case measure => simp [intOf]; omega
        · obtain rfl : j = N := by omega
          have hfin : (peelN (j - k) Lk m l) = (Lk, m, l) := peelN_stop (firstP_none (by rw [lk.out]; exact np.out))
          have HF := Lib.hid (show PN = (Lk, m, l) from pk.out.symm.trans hfin)
          have om1 := Lib.hid (om.out.below bj.out)
          have ol1 := Lib.hid (ol.out.below bj.out)
          have bb1 := Lib.hid (bl_then bb.out bj.out)
          clear hfin np
          have hm2 : SortOk m m' := by have h := HM.out; rw [HF.out] at h; exact h
          have hl2 : SortOk l l' := by have h := HL.out; rw [HF.out] at h; exact h
          have HZ := Lib.hid (show zeroB PN.1 = zeroB Lk from by rw [HF.out])
          clear HF HM HL HP pk
          go_wp2_with fail
          refine (hm2 W1 B0 A1 c1 om1.out).mono ?_
          rintro e w3 ⟨rfl, o3, g3⟩
          have O3 := Lib.hid o3
          have L3 := Lib.hid (ol1.out.grown g3 ap.out.keep)
          have S3 := Lib.hid (skt_grown sk1.out om1.out g3)
          have bb3 := Lib.hid (Below.grown bb1.out g3 (by have := bb1.out.size; omega) (fun b hb => by have := (om1.out.lt b hb).1; rw [← HB0.out]; exact this))
          clear o3 g3 hm2
          go_wp2_with fail
          refine (hl2 w3 B0 A2 c2 L3.out).mono ?_
          rintro e w4 ⟨rfl, o4, g4⟩
          have O4 := Lib.hid (O3.out.grown g4 ap.out.symm.keep)
          have L4 := Lib.hid o4
          have S4 := Lib.hid (skt_grown S3.out L3.out g4)
          have bb4 := Lib.hid (Below.grown bb3.out g4 (by have := bb3.out.size; omega) (fun b hb => by have := (L3.out.lt b hb).1; rw [← HB0.out]; exact this))
          clear o4 g4 hl2 c1'
          have c4 : w4.cell? ⟨G, 0, none⟩ = some (.slice (some ⟨d, 0, none⟩) j e2) := by have := S4.out.b.cell 0; rw [lk.out] at this; exact this
          have hGW4 := S4.out.b.lt
          go_wp2_with fail
          go_loopw [4, 85] (fun wh i w' => ∃ q : Nat, q ≤ j ∧ i = .int .i64 q ∧ wh = .bool (zeroB (Lk.take q)) ∧ Hid (Below w4.heap.size w4 w')) (fun _ i _ => j - (intOf i).toNat)
          case atStart => exact ⟨0, Nat.zero_le _, rfl, rfl, Lib.hid (Below.refl _ _)⟩
          case round =>
            obtain ⟨q, hq, rfl, rfl, bq⟩ := hrel
            by_cases hql : q < j
            · have i0 : (0 : Int) ≤ (q : Int) := by omega
              have i1 : (q : Int) < (j : Int) := by omega
              obtain ⟨y, hy⟩ : ∃ y, y = Lk[q]'(by rw [lk.out]; exact hql) := ⟨_, rfl⟩
              have sq := S4.out.below bq.out
              obtain ⟨⟨a0, a1, a2⟩, _⟩ := cel_at sq.o q (by rw [lk.out]; exact hql) y hy.symm
              have hz : zeroB (Lk.take (q + 1)) = (zeroB (Lk.take q) && (y == zc)) := by
                rw [List.take_add_one, List.getElem?_eq_getElem (by rw [lk.out]; exact hql), ← hy]
                simp [zeroB]
              have HZ1 := Lib.hid hz
              clear hz hy sq
              rcases hb : zeroB (Lk.take q) with _ | _
              · have HBT := Lib.hid hb
                clear hb
                go_wp2
                go_roundw
                case rel => exact ⟨q + 1, by omega, by go_num, by rw [HZ1.out, HBT.out]; rfl, Lib.hid (by repeat (first | exact bq.out | refine bl_drewN ?_ _ | refine bl_drew ?_ | refine bl_alloc ?_ _))⟩
                case measure => simp [intOf]; omega
              · have HBT := Lib.hid hb
                clear hb
                go_wp2
                go_roundw
                case rel => exact ⟨q + 1, by omega, by go_num, by rw [HZ1.out, HBT.out]; rfl, Lib.hid (by repeat (first | exact bq.out | refine bl_drewN ?_ _ | refine bl_drew ?_ | refine bl_alloc ?_ _))⟩
                case measure => simp [intOf]; omega
            · obtain rfl : q = j := by omega
              have ht : zeroB (Lk.take q) = zeroB PN.1 := by rw [HZ.out, ← lk.out, List.take_length]
              rw [ht]
              have e1 := it_len O4.out
              have e3 := it_len L4.out
              have O5 := Lib.hid (O4.out.below bq.out)
              have L5 := Lib.hid (L4.out.below bq.out)
              have bb5 := Lib.hid (bl_then bb4.out bq.out)
              rw [e1] at O5 ⊢
              rw [e3] at L5 ⊢
              go_wp2
              go_ret3
              have hbf : Below B0 w wr := by rw [HB0.out]; exact bb5.out
              exact ⟨A1, c1, A2, c2, rfl, O5.out, L5.out, hbf⟩
    · obtain rfl : k = N := by omega
      have HF : Hid (PN = (Lk, m, l)) := Lib.hid (by have h := pk.out; rw [Nat.sub_self] at h; exact h.symm)
      have om1 := om
      have ol1 := ol
      have bb1 := bb
      have sk1 := sk
      have c1' : W0.cell? ⟨G, 0, none⟩ = some (.slice (some ⟨d, 0, none⟩) k e2) := by have := sk.out.b.cell 0; rw [lk.out] at this; exact this
      have hm2 : SortOk m m' := by have h := HM.out; rw [HF.out] at h; exact h
      have hl2 : SortOk l l' := by have h := HL.out; rw [HF.out] at h; exact h
      have HZ := Lib.hid (show zeroB PN.1 = zeroB Lk from by rw [HF.out])
      clear HF HM HL HP pk
      go_wp2_with fail
      refine (hm2 W0 B0 A1 c1 om1.out).mono ?_
      rintro e w3 ⟨rfl, o3, g3⟩
      have O3 := Lib.hid o3
      have L3 := Lib.hid (ol1.out.grown g3 ap.out.keep)
      have S3 := Lib.hid (skt_grown sk1.out om1.out g3)
      have bb3 := Lib.hid (Below.grown bb1.out g3 (by have := bb1.out.size; omega) (fun b hb => by have := (om1.out.lt b hb).1; rw [← HB0.out]; exact this))
      clear o3 g3 hm2
      go_wp2_with fail
      refine (hl2 w3 B0 A2 c2 L3.out).mono ?_
      rintro e w4 ⟨rfl, o4, g4⟩
      have O4 := Lib.hid (O3.out.grown g4 ap.out.symm.keep)
      have L4 := Lib.hid o4
      have S4 := Lib.hid (skt_grown S3.out L3.out g4)
      have bb4 := Lib.hid (Below.grown bb3.out g4 (by have := bb3.out.size; omega) (fun b hb => by have := (L3.out.lt b hb).1; rw [← HB0.out]; exact this))
      clear o4 g4 hl2 c1'
      have c4 : w4.cell? ⟨G, 0, none⟩ = some (.slice (some ⟨d, 0, none⟩) k e2) := by have := S4.out.b.cell 0; rw [lk.out] at this; exact this
      have hGW4 := S4.out.b.lt
      go_wp2_with fail
      go_loopw [4, 85] (fun wh i w' => ∃ q : Nat, q ≤ k ∧ i = .int .i64 q ∧ wh = .bool (zeroB (Lk.take q)) ∧ Hid (Below w4.heap.size w4 w')) (fun _ i _ => k - (intOf i).toNat)
      case atStart => exact ⟨0, Nat.zero_le _, rfl, rfl, Lib.hid (Below.refl _ _)⟩
      case round =>
        obtain ⟨q, hq, rfl, rfl, bq⟩ := hrel
        by_cases hql : q < k
        · have i0 : (0 : Int) ≤ (q : Int) := by omega
          have i1 : (q : Int) < (k : Int) := by omega
          obtain ⟨y, hy⟩ : ∃ y, y = Lk[q]'(by rw [lk.out]; exact hql) := ⟨_, rfl⟩
          have sq := S4.out.below bq.out
          obtain ⟨⟨a0, a1, a2⟩, _⟩ := cel_at sq.o q (by rw [lk.out]; exact hql) y hy.symm
          have hz : zeroB (Lk.take (q + 1)) = (zeroB (Lk.take q) && (y == zc)) := by
            rw [List.take_add_one, List.getElem?_eq_getElem (by rw [lk.out]; exact hql), ← hy]
            simp [zeroB]
          have HZ1 := Lib.hid hz
          clear hz hy sq
          rcases hb : zeroB (Lk.take q) with _ | _
          · have HBT := Lib.hid hb
            clear hb
            go_wp2
            go_roundw
            case rel => exact ⟨q + 1, by omega, by go_num, by rw [HZ1.out, HBT.out]; rfl, Lib.hid (by repeat (first | exact bq.out | refine bl_drewN ?_ _ | refine bl_drew ?_ | refine bl_alloc ?_ _))⟩
            case measure => simp [intOf]; omega
          · have HBT := Lib.hid hb
            clear hb
            go_wp2
            go_roundw
            case rel => exact ⟨q + 1, by omega, by go_num, by rw [HZ1.out, HBT.out]; rfl, Lib.hid (by repeat (first | exact bq.out | refine bl_drewN ?_ _ | refine bl_drew ?_ | refine bl_alloc ?_ _))⟩
            case measure => simp [intOf]; omega
        · obtain rfl : q = k := by omega
          have ht : zeroB (Lk.take q) = zeroB PN.1 := by rw [HZ.out, ← lk.out, List.take_length]
          rw [ht]
          have e1 := it_len O4.out
          have e3 := it_len L4.out
          have O5 := Lib.hid (O4.out.below bq.out)
          have L5 := Lib.hid (L4.out.below bq.out)
          have bb5 := Lib.hid (bl_then bb4.out bq.out)
          rw [e1] at O5 ⊢
          rw [e3] at L5 ⊢
          go_wp2
          go_ret3
          have hbf : Below B0 w wr := by rw [HB0.out]; exact bb5.out
          exact ⟨A1, c1, A2, c2, rfl, O5.out, L5.out, hbf⟩
end Go.Proofs.Ytpklkjekkbpeoaa
