/- DERIVED. DvvPuts: the walk of the law. -/
import Derived.Test.YtlmnmlehnigfdaaDvRefPut
namespace Go.Proofs.Ytlmnmlehnigfdaa
open Go.RowKit Go.Proofs.YtlmnmlehnigfdaaW.PrintWords
set_option linter.unusedVariables false
set_option linter.unusedSimpArgs false
attribute [local go_sem high] eqD

theorem put_at (A B C : Option Addr) (c1 c2 c3 n m k : Nat) (s : List Dot) (l : List Sib) (ctx : List Dot) (a : Int) (v : ByteArray) (g : Bool) (w : World) (hs : GR.Rd dotK w A s) (hl : GR.Rd sibK w B l) (hc : GR.Rd dotK w C ctx) (h1 : n = s.length) (h2 : m = l.length) (h3 : k = ctx.length) (hcs : n ≤ c1) (hcc : k ≤ c3)
    (ns : ∀ d ∈ s, 0 ≤ d.n) (nl : ∀ x ∈ l, 0 ≤ x.d.n) (nc : ∀ d ∈ ctx, 0 ≤ d.n) :
    Calls Try.prog 14 #[.agg #[.slice A n c1, .slice B m c2], .slice C k c3, .int .u32 a, .string v, .bool g] w
      fun e w' => ∃ v1 v2, e = .returned (.tuple #[.agg #[v1, v2], .agg #[.int .u32 (putD s l ctx a v g).a, .int .u64 (putD s l ctx a v g).n], .int .i64 (putE s l ctx a v g)]) ∧ OwnS w' w.heap.size v1 v2 (putA s l ctx a v g) (putL s l ctx a v g) ∧ Below w.heap.size w w' := by
  subst h1 h2 h3
  exact dvvPut_any A B C c1 c2 c3 s l ctx a v g w hs hl hc hcs hcc ns nl nc
theorem refPut_at (A B C : Option Addr) (c1 c2 c3 n m k : Nat) (s : List Dot) (l : List Sib) (ctx : List Dot) (a : Int) (v : ByteArray) (g : Bool) (w : World) (hs : GR.Rd dotK w A s) (hl : GR.Rd sibK w B l) (hc : GR.Rd dotK w C ctx) (h1 : n = s.length) (h2 : m = l.length) (h3 : k = ctx.length)
    (ns : ∀ d ∈ s, 0 ≤ d.n) (nl : ∀ x ∈ l, 0 ≤ x.d.n) (nc : ∀ d ∈ ctx, 0 ≤ d.n) :
    Calls Try.prog 13 #[.agg #[.slice A n c1, .slice B m c2], .slice C k c3, .int .u32 a, .string v, .bool g] w
      fun e w' => ∃ v1 v2, e = .returned (.tuple #[.agg #[v1, v2], .agg #[.int .u32 (putD s l ctx a v g).a, .int .u64 (putD s l ctx a v g).n], .int .i64 (putE s l ctx a v g)]) ∧ OwnS w' w.heap.size v1 v2 (putA s l ctx a v g) (putL s l ctx a v g) ∧ Below w.heap.size w w' := by
  subst h1 h2 h3
  exact refPut_any A B C c1 c2 c3 s l ctx a v g w hs hl hc ns nl nc
theorem lent_ctx (C : Option Addr) (c : Nat) (ctx : List Dot) (w : World) (hc : GR.Rd dotK w C ctx) (sc : ctx.length * 16 ≤ 140737488351232) :
    Calls Try.prog 12 #[.agg #[.slice C ctx.length c, .slice none 0 0]] w fun e w' => ∃ g1 c1 g2 c2 : Nat, e = .returned (.agg #[.slice (some ⟨g1, 0, none⟩) ctx.length c1, .slice (some ⟨g2, 0, none⟩) 0 c2]) ∧
      OwnS w' w.heap.size (.slice (some ⟨g1, 0, none⟩) (ctx.length + 70) c1) (.slice (some ⟨g2, 0, none⟩) (([] : List Sib).length + 70) c2) (ctx ++ dmarks 70) ([] ++ smarks 70) ∧ Below w.heap.size w w' :=
  lent_any C none c 0 ctx [] w hc (GR.Rd.nil _ _ _) sc (by simp)
theorem kept_ctx (g1 c1 g2 c2 B0 : Nat) (C : Option Addr) (c : Nat) (ctx : List Dot) (w : World) (hc : GR.Rd dotK w C ctx) (sc : ctx.length * 16 ≤ 140737488351232)
    (ho : OwnS w B0 (.slice (some ⟨g1, 0, none⟩) (ctx.length + 70) c1) (.slice (some ⟨g2, 0, none⟩) (([] : List Sib).length + 70) c2) (ctx ++ dmarks 70) ([] ++ smarks 70)) :
    Calls Try.prog 16 #[.agg #[.slice (some ⟨g1, 0, none⟩) ctx.length c1, .slice (some ⟨g2, 0, none⟩) 0 c2], .agg #[.slice C ctx.length c, .slice none 0 0]] w fun e w' => e = .returned (.bool true) ∧ Below w.heap.size w w' :=
  kept_any g1 c1 g2 c2 B0 C none c 0 ctx [] w hc (GR.Rd.nil _ _ _) sc (by simp) ho

theorem chgB_set {S : Nat → Prop} {W w : World} {g i : Nat} {u : Value} (h : Chg S W w) (hg : S g ∨ W.heap.size ≤ g) : Chg S W (w.setCell ⟨g, i, none⟩ u) :=
  ⟨h.os, h.tape, h.output, Nat.le_trans h.size (by simp [World.setCell]), fun k hk hn => (Below.heap_setCell w ⟨g, i, none⟩ u k (by
    rintro rfl
    rcases hg with hg | hg
    · exact hn hg
    · exact absurd hk (Nat.not_lt.2 hg))).trans (h.block k hk hn)⟩
theorem chgB_alloc {S : Nat → Prop} {W w : World} (h : Chg S W w) (o : Obj) : Chg S W (w.alloc o) := h.bl ((Below.refl _ _).alloc (Nat.le_refl _) o)
theorem chg_cell {S : Nat → Prop} {W w : World} (h : Chg S W w) {p : Addr} {v : Value} (hp : p.block < W.heap.size) (hn : ¬ S p.block) (hv : W.cell? p = some v) : w.cell? p = some v := (World.cell?_of_block (h.block p.block hp hn)).trans hv
theorem pz_cap {W wz : World} {G P : Nat} {x y u v p q q0 q1 z1 z2 : Value} {A : List Dot} {L : List Sib} (HR : Below W.heap.size W wz) (BK : GR.Blk wz G 25 #[x, y]) (BD : GR.Blk wz P 32 #[q0, q1]) (TZ : OwnS wz W.heap.size z1 z2 A L) (hG : W.heap.size ≤ G) (hP : P < W.heap.size) :
    GR.Blk ((((wz.setCell ⟨G, 0, none⟩ u).setCell ⟨G, 1, none⟩ v).setCell ⟨P, 0, none⟩ p).setCell ⟨P, 1, none⟩ q) G 25 #[u, v] ∧ OwnS ((((wz.setCell ⟨G, 0, none⟩ u).setCell ⟨G, 1, none⟩ v).setCell ⟨P, 0, none⟩ p).setCell ⟨P, 1, none⟩ q) W.heap.size z1 z2 A L ∧
    GR.Blk ((((wz.setCell ⟨G, 0, none⟩ u).setCell ⟨G, 1, none⟩ v).setCell ⟨P, 0, none⟩ p).setCell ⟨P, 1, none⟩ q) P 32 #[p, q] ∧ Chg (fun k => k = P) W ((((wz.setCell ⟨G, 0, none⟩ u).setCell ⟨G, 1, none⟩ v).setCell ⟨P, 0, none⟩ p).setCell ⟨P, 1, none⟩ q) := by
  have hne : G ≠ P := by omega
  have CF : Chg (fun k => k = G ∨ k = P) wz ((((wz.setCell ⟨G, 0, none⟩ u).setCell ⟨G, 1, none⟩ v).setCell ⟨P, 0, none⟩ p).setCell ⟨P, 1, none⟩ q) := chg_put (chg_put (chg_put (chg_put (Chg.refl _ _) (.inl rfl)) (.inl rfl)) (.inr rfl)) (.inr rfl)
  refine ⟨(((BK.set_ 0 u).set_ 1 v).far (p := ⟨P, 0, none⟩) hne p).far (p := ⟨P, 1, none⟩) hne q, ⟨own_chg TZ.d CF fun k hk h => ?_, own_chg TZ.s CF fun k hk h => ?_⟩,
    (((BD.far (p := ⟨G, 0, none⟩) (Ne.symm hne) u).far (p := ⟨G, 1, none⟩) (Ne.symm hne) v).set_ 0 p).set_ 1 q, Chg.trans (chg_bl HR) CF fun i hi h => ?_⟩
  · rcases h with rfl | rfl
    · exact GR.own_blk_ne TZ.d BK (by decide) hk
    · have := (TZ.d.lt _ hk).1; omega
  · rcases h with rfl | rfl
    · exact GR.own_blk_ne TZ.s BK (by decide) hk
    · have := (TZ.s.lt _ hk).1; omega
  · rcases h with h | h
    · omega
    · exact h
theorem pz_new {W wz : World} {P : Nat} {u v p q q0 q1 z1 z2 : Value} {A : List Dot} {L : List Sib} (HR : Below W.heap.size W wz) (BD : GR.Blk wz P 32 #[q0, q1]) (TZ : OwnS wz W.heap.size z1 z2 A L) (hP : P < W.heap.size) :
    GR.Blk (((wz.setCell ⟨P, 0, none⟩ p).setCell ⟨P, 1, none⟩ q).alloc (.cells #[u, v] 25)) wz.heap.size 25 #[u, v] ∧ OwnS (((wz.setCell ⟨P, 0, none⟩ p).setCell ⟨P, 1, none⟩ q).alloc (.cells #[u, v] 25)) W.heap.size z1 z2 A L ∧
    GR.Blk (((wz.setCell ⟨P, 0, none⟩ p).setCell ⟨P, 1, none⟩ q).alloc (.cells #[u, v] 25)) P 32 #[p, q] ∧ Chg (fun k => k = P) W (((wz.setCell ⟨P, 0, none⟩ p).setCell ⟨P, 1, none⟩ q).alloc (.cells #[u, v] 25)) := by
  have CF : Chg (fun k => k = P) wz ((wz.setCell ⟨P, 0, none⟩ p).setCell ⟨P, 1, none⟩ q) := chg_put (chg_put (Chg.refl _ _) rfl) rfl
  have hb : Below ((wz.setCell ⟨P, 0, none⟩ p).setCell ⟨P, 1, none⟩ q).heap.size ((wz.setCell ⟨P, 0, none⟩ p).setCell ⟨P, 1, none⟩ q) (((wz.setCell ⟨P, 0, none⟩ p).setCell ⟨P, 1, none⟩ q).alloc (.cells #[u, v] 25)) := (Below.refl _ _).alloc (Nat.le_refl _) _
  refine ⟨new_at _ _ _ (by simp [World.setCell]), OwnS.below ⟨own_chg TZ.d CF fun k hk h => ?_, own_chg TZ.s CF fun k hk h => ?_⟩ hb, ((BD.set_ 0 p).set_ 1 q).alloc _, ((chg_bl HR).then CF).bl hb⟩
  · have := (TZ.d.lt _ hk).1; omega
  · have := (TZ.s.lt _ hk).1; omega

set_option maxRecDepth 100000 in
set_option maxHeartbeats 25600000 in
theorem puts_walk (A B C : Option Addr) (c d c2 : Nat) (s : List Dot) (l : List Sib) (ctx : List Dot) (a : Int) (v : ByteArray) (g : Bool) (w : World) (hs : GR.Rd dotK w A s) (hl : GR.Rd sibK w B l) (hc : GR.Rd dotK w C ctx) (sa : s.length * 16 ≤ 140737488351232) (sl : l.length * 40 ≤ 140737488351232) (sb : ctx.length * 16 ≤ 140737488351232)
    (ns : ∀ d ∈ s, 0 ≤ d.n) (nl : ∀ x ∈ l, 0 ≤ x.d.n) (nc : ∀ d ∈ ctx, 0 ≤ d.n) :
    Calls Try.prog 3 #[.agg #[.slice A s.length c, .slice B l.length d], .agg #[.slice C ctx.length c2, .int .u32 a, .string v, .bool g]] w fun e w' => e = .returned (.bool true) ∧ Below w.heap.size w w' := by
  have bma : s.length * 16 ≤ 140737488355328 := by omega
  have bml : l.length * 40 ≤ 140737488355328 := by omega
  have bmb : ctx.length * 16 ≤ 140737488355328 := by omega
  have HJ := Lib.hid (put_small s l ctx a v g)
  have HP := Lib.hid (put_pos (a := a) (v := v) (g := g) ns nl nc)
  have EE := Lib.hid (show ((putE s l ctx a v g) != (putE s l ctx a v g)) = false by simp)
  have DD := Lib.hid (show dEq (putD s l ctx a v g).a (putD s l ctx a v g).n (putD s l ctx a v g).a (putD s l ctx a v g).n = true by simp [dEq])
  have jb1 : (putA s l ctx a v g).length * 16 ≤ 140737488355328 := by have := HJ.out.1; omega
  have jb2 : (putL s l ctx a v g).length * 40 ≤ 140737488355328 := by have := HJ.out.2; omega
  have HS1 := Lib.hid hs
  have HL1 := Lib.hid hl
  have HC1 := Lib.hid hc
  have NS := Lib.hid ns
  have NL := Lib.hid nl
  have NC := Lib.hid nc
  clear hs hl hc ns nl nc
  go_enter Try.func3, Try.ntmps3
  go_wp2_with fail
  obtain ⟨W1, hW1⟩ : ∃ W1 : World, W1 = (w.alloc (.cells #[.slice A s.length c, .slice B l.length d] 25)).alloc (.cells #[.slice C ctx.length c2, .int .u32 a, .string v, .bool g] 28) := ⟨_, rfl⟩
  rw [← hW1]
  have LW : Hid (Below w.heap.size w W1) := Lib.hid (by rw [hW1]; exact (by repeat (first | exact Below.refl _ _ | refine bl_drewN ?_ _ | refine bl_drew ?_ | refine bl_alloc ?_ _)))
  have XA : Hid (GR.Blk W1 w.heap.size 25 #[.slice A s.length c, .slice B l.length d]) := Lib.hid (by rw [hW1]; exact (GR.Blk.new _ _ _).alloc _)
  have XB : Hid (GR.Blk W1 (w.heap.size + 1) 28 #[.slice C ctx.length c2, .int .u32 a, .string v, .bool g]) := Lib.hid (by rw [hW1]; exact new_at _ _ _ (by simp))
  clear hW1
  have F1 := Lib.hid (HS.nil W1)
  have F2 := Lib.hid (HS.addB F1.out (g := w.heap.size) (t := 25) (cs := #[.slice A s.length c, .slice B l.length d]) (XA.out))
  clear F1
  have F3 := Lib.hid (HS.addB F2.out (g := w.heap.size + 1) (t := 28) (cs := #[.slice C ctx.length c2, .int .u32 a, .string v, .bool g]) (XB.out))
  clear F2
  have F4 := Lib.hid (F3.out.addR (HS1.out.below LW.out))
  clear F3
  have F5 := Lib.hid (F4.out.addR (HL1.out.below LW.out))
  clear F4
  have F6 := Lib.hid (F5.out.addR (HC1.out.below LW.out))
  clear F5
  have PPLT := Lib.hid (XB.out.lt : w.heap.size + 1 < W1.heap.size)
  clear XA XB
  refine (lent_any A B c d s l _ (F6.out.rd 2 rfl) (F6.out.rd 1 rfl) sa sl).mono ?_
  rintro e w2 ⟨g1, c1, g2, c3, rfl, ho, hb⟩
  have F7 := Lib.hid (F6.out.below hb)
  clear F6
  have F8 := Lib.hid (F7.out.addO (ho))
  clear F7
  have F9 := Lib.hid (F8.out.addO (⟨GR.Own.take ho.d, GR.Own.take ho.s⟩))
  clear F8
  have RX1 := Lib.hid (show ∀ k, rows2 (.slice (some ⟨g1, 0, none⟩) s.length c1) (.slice (some ⟨g2, 0, none⟩) l.length c3) k → W1.heap.size ≤ k from ho.ge)
  have RX2 := Lib.hid (show ∀ k, rows2 (.slice (some ⟨g1, 0, none⟩) s.length c1) (.slice (some ⟨g2, 0, none⟩) l.length c3) k → k < w2.heap.size from ho.lt)
  have BB := Lib.hid hb
  have S2 : W1.heap.size ≤ w2.heap.size := hb.size
  clear ho hb
  have pp_0 : w2.cell? ⟨w.heap.size + 1, 0, none⟩ = some (.slice C ctx.length c2) := (F9.out.blk 5 rfl).cell 0
  have pp_1 : w2.cell? ⟨w.heap.size + 1, 1, none⟩ = some (.int .u32 a) := (F9.out.blk 5 rfl).cell 1
  have pp_2 : w2.cell? ⟨w.heap.size + 1, 2, none⟩ = some (.string v) := (F9.out.blk 5 rfl).cell 2
  have pp_3 : w2.cell? ⟨w.heap.size + 1, 3, none⟩ = some (.bool g) := (F9.out.blk 5 rfl).cell 3
  have pp_lt : w.heap.size + 1 < w2.heap.size := (F9.out.blk 5 rfl).lt
  go_wp2_with fail
  obtain ⟨W3, hW3⟩ : ∃ W : World, W = (w2).alloc (.cells #[.slice (some ⟨g1, 0, none⟩) s.length c1, .slice (some ⟨g2, 0, none⟩) l.length c3] 25) := ⟨_, rfl⟩
  rw [← hW3]
  have LW3 : Hid (Below w2.heap.size w2 W3) := Lib.hid (by rw [hW3]; exact (by repeat (first | exact Below.refl _ _ | refine bl_drewN ?_ _ | refine bl_drew ?_ | refine bl_alloc ?_ _)))
  have XW30 : Hid (GR.Blk W3 (w2.heap.size) 25 #[.slice (some ⟨g1, 0, none⟩) s.length c1, .slice (some ⟨g2, 0, none⟩) l.length c3]) := Lib.hid (by rw [hW3]; exact GR.Blk.new _ _ _)
  have SW3 : w2.heap.size < W3.heap.size := XW30.out.lt
  clear hW3
  clear pp_0 pp_1 pp_2 pp_3 pp_lt
  have F10 := Lib.hid (F9.out.below LW3.out)
  clear F9
  have F11 := Lib.hid (HS.addB F10.out (g := w2.heap.size) (t := 25) (cs := #[.slice (some ⟨g1, 0, none⟩) s.length c1, .slice (some ⟨g2, 0, none⟩) l.length c3]) (XW30.out))
  clear F10
  replace BB := Lib.hid (bl_then BB.out LW3.out)
  refine (lent_ctx C c2 ctx _ (F11.out.rd 3 rfl) sb).mono ?_
  rintro e w4 ⟨g3, c4, g4, c5, rfl, ho, hb⟩
  have F12 := Lib.hid (F11.out.below hb)
  clear F11
  have F13 := Lib.hid (F12.out.addO (ho))
  clear F12
  have F14 := Lib.hid (F13.out.addO (show OwnS w4 W3.heap.size (.slice (some ⟨g3, 0, none⟩) ctx.length c4) (.slice (some ⟨g4, 0, none⟩) 0 c5) ctx [] from ⟨GR.Own.take ho.d, GR.Own.take (l := []) ho.s⟩))
  clear F13
  have RY1 := Lib.hid (show ∀ k, rows2 (.slice (some ⟨g3, 0, none⟩) ctx.length c4) (.slice (some ⟨g4, 0, none⟩) 0 c5) k → W3.heap.size ≤ k from ho.ge)
  have RY2 := Lib.hid (show ∀ k, rows2 (.slice (some ⟨g3, 0, none⟩) ctx.length c4) (.slice (some ⟨g4, 0, none⟩) 0 c5) k → k < w4.heap.size from ho.lt)
  have S4 : W3.heap.size ≤ w4.heap.size := hb.size
  replace BB := Lib.hid (bl_then BB.out hb)
  clear ho hb
  have ps_0 : w4.cell? ⟨w.heap.size, 0, none⟩ = some (.slice A s.length c) := (F14.out.blk 9 rfl).cell 0
  have ps_1 : w4.cell? ⟨w.heap.size, 1, none⟩ = some (.slice B l.length d) := (F14.out.blk 9 rfl).cell 1
  have pp_0 : w4.cell? ⟨w.heap.size + 1, 0, none⟩ = some (.slice C ctx.length c2) := (F14.out.blk 8 rfl).cell 0
  have pp_1 : w4.cell? ⟨w.heap.size + 1, 1, none⟩ = some (.int .u32 a) := (F14.out.blk 8 rfl).cell 1
  have pp_2 : w4.cell? ⟨w.heap.size + 1, 2, none⟩ = some (.string v) := (F14.out.blk 8 rfl).cell 2
  have pp_3 : w4.cell? ⟨w.heap.size + 1, 3, none⟩ = some (.bool g) := (F14.out.blk 8 rfl).cell 3
  have ps_lt : w.heap.size < w4.heap.size := (F14.out.blk 9 rfl).lt
  have pp_lt : w.heap.size + 1 < w4.heap.size := (F14.out.blk 8 rfl).lt
  go_wp2_with fail
  obtain ⟨W5, hW5⟩ : ∃ W : World, W = (w4).alloc (.cells #[.slice (some ⟨g3, 0, none⟩) ctx.length c4, .slice (some ⟨g4, 0, none⟩) 0 c5] 25) := ⟨_, rfl⟩
  rw [← hW5]
  have LW5 : Hid (Below w4.heap.size w4 W5) := Lib.hid (by rw [hW5]; exact (by repeat (first | exact Below.refl _ _ | refine bl_drewN ?_ _ | refine bl_drew ?_ | refine bl_alloc ?_ _)))
  have XW50 : Hid (GR.Blk W5 (w4.heap.size) 25 #[.slice (some ⟨g3, 0, none⟩) ctx.length c4, .slice (some ⟨g4, 0, none⟩) 0 c5]) := Lib.hid (by rw [hW5]; exact GR.Blk.new _ _ _)
  have SW5 : w4.heap.size < W5.heap.size := XW50.out.lt
  clear hW5
  clear ps_0 ps_1 ps_lt pp_0 pp_1 pp_2 pp_3 pp_lt
  have F15 := Lib.hid (F14.out.below LW5.out)
  clear F14
  have F16 := Lib.hid (HS.addB F15.out (g := w4.heap.size) (t := 25) (cs := #[.slice (some ⟨g3, 0, none⟩) ctx.length c4, .slice (some ⟨g4, 0, none⟩) 0 c5]) (XW50.out))
  clear F15
  replace BB := Lib.hid (bl_then BB.out LW5.out)
  refine (refPut_at A B C c d c2 _ _ _ s l ctx a v g _ (F16.out.rd 8 rfl) (F16.out.rd 7 rfl) (F16.out.rd 6 rfl) rfl rfl rfl NS.out NL.out NC.out).mono ?_
  rintro e w6 ⟨v1, v2, rfl, ho, hb⟩
  obtain ⟨A1, n1, k1, rfl⟩ := own_slice ho.d jb1
  obtain ⟨A2, n2, k2, rfl⟩ := own_slice ho.s jb2
  obtain rfl : n1 = (putA s l ctx a v g).length := own_n' ho.d
  obtain rfl : n2 = (putL s l ctx a v g).length := own_n' ho.s
  have F17 := Lib.hid (F16.out.below hb)
  clear F16
  have F18 := Lib.hid (F17.out.addO (ho))
  clear F17
  have Rwant1 := Lib.hid (show ∀ k, rows2 (.slice A1 (putA s l ctx a v g).length k1) (.slice A2 (putL s l ctx a v g).length k2) k → W5.heap.size ≤ k from ho.ge)
  have Rwant2 := Lib.hid (show ∀ k, rows2 (.slice A1 (putA s l ctx a v g).length k1) (.slice A2 (putL s l ctx a v g).length k2) k → k < w6.heap.size from ho.lt)
  have Sw6 : W5.heap.size ≤ w6.heap.size := hb.size
  replace BB := Lib.hid (bl_then BB.out hb)
  clear ho hb
  have px_0 : w6.cell? ⟨w2.heap.size, 0, none⟩ = some (.slice (some ⟨g1, 0, none⟩) s.length c1) := (F18.out.blk 4 rfl).cell 0
  have px_1 : w6.cell? ⟨w2.heap.size, 1, none⟩ = some (.slice (some ⟨g2, 0, none⟩) l.length c3) := (F18.out.blk 4 rfl).cell 1
  have pc_0 : w6.cell? ⟨w4.heap.size, 0, none⟩ = some (.slice (some ⟨g3, 0, none⟩) ctx.length c4) := (F18.out.blk 1 rfl).cell 0
  have pc_1 : w6.cell? ⟨w4.heap.size, 1, none⟩ = some (.slice (some ⟨g4, 0, none⟩) 0 c5) := (F18.out.blk 1 rfl).cell 1
  have pp_0 : w6.cell? ⟨w.heap.size + 1, 0, none⟩ = some (.slice C ctx.length c2) := (F18.out.blk 10 rfl).cell 0
  have pp_1 : w6.cell? ⟨w.heap.size + 1, 1, none⟩ = some (.int .u32 a) := (F18.out.blk 10 rfl).cell 1
  have pp_2 : w6.cell? ⟨w.heap.size + 1, 2, none⟩ = some (.string v) := (F18.out.blk 10 rfl).cell 2
  have pp_3 : w6.cell? ⟨w.heap.size + 1, 3, none⟩ = some (.bool g) := (F18.out.blk 10 rfl).cell 3
  have px_lt : w2.heap.size < w6.heap.size := (F18.out.blk 4 rfl).lt
  have pc_lt : w4.heap.size < w6.heap.size := (F18.out.blk 1 rfl).lt
  have pp_lt : w.heap.size + 1 < w6.heap.size := (F18.out.blk 10 rfl).lt
  have ps_lt : w.heap.size < w6.heap.size := (F18.out.blk 11 rfl).lt
  go_wp2_with fail
  obtain ⟨W7, hW7⟩ : ∃ W : World, W = ((w6).alloc (.cells #[.slice A1 (putA s l ctx a v g).length k1, .slice A2 (putL s l ctx a v g).length k2] 25)).alloc (.cells #[.int .u32 (putD s l ctx a v g).a, .int .u64 (putD s l ctx a v g).n] 32) := ⟨_, rfl⟩
  rw [← hW7]
  have LW7 : Hid (Below w6.heap.size w6 W7) := Lib.hid (by rw [hW7]; exact (by repeat (first | exact Below.refl _ _ | refine bl_drewN ?_ _ | refine bl_drew ?_ | refine bl_alloc ?_ _)))
  have XW70 : Hid (GR.Blk W7 (w6.heap.size) 25 #[.slice A1 (putA s l ctx a v g).length k1, .slice A2 (putL s l ctx a v g).length k2]) := Lib.hid (by rw [hW7]; exact (GR.Blk.new _ _ _).alloc _)
  have XW71 : Hid (GR.Blk W7 (w6.heap.size + 1) 32 #[.int .u32 (putD s l ctx a v g).a, .int .u64 (putD s l ctx a v g).n]) := Lib.hid (by rw [hW7]; exact new_at _ _ _ (by simp))
  have SW7 : w6.heap.size < W7.heap.size := XW70.out.lt
  clear hW7
  clear px_0 px_1 px_lt pc_0 pc_1 pc_lt pp_0 pp_1 pp_2 pp_3 pp_lt
  clear ps_lt
  have F19 := Lib.hid (F18.out.below LW7.out)
  clear F18
  have F20 := Lib.hid (HS.addB F19.out (g := w6.heap.size) (t := 25) (cs := #[.slice A1 (putA s l ctx a v g).length k1, .slice A2 (putL s l ctx a v g).length k2]) (XW70.out))
  clear F19
  have F21 := Lib.hid (HS.addB F20.out (g := w6.heap.size + 1) (t := 32) (cs := #[.int .u32 (putD s l ctx a v g).a, .int .u64 (putD s l ctx a v g).n]) (XW71.out))
  clear F20
  replace BB := Lib.hid (bl_then BB.out LW7.out)
  refine (put_at _ _ _ _ _ _ _ _ _ s l ctx a v g _ ((F21.out.own 7 rfl).d.rd bma).2.2 ((F21.out.own 7 rfl).s.rd bml).2.2 ((F21.out.own 4 rfl).d.rd bmb).2.2 rfl rfl rfl ((F21.out.own 7 rfl).d.rd bma).2.1 ((F21.out.own 4 rfl).d.rd bmb).2.1 NS.out NL.out NC.out).mono ?_
  rintro e w8 ⟨v1, v2, rfl, ho, hb⟩
  obtain ⟨A3, n3, k3, rfl⟩ := own_slice ho.d jb1
  obtain ⟨A4, n4, k4, rfl⟩ := own_slice ho.s jb2
  obtain rfl : n3 = (putA s l ctx a v g).length := own_n' ho.d
  obtain rfl : n4 = (putL s l ctx a v g).length := own_n' ho.s
  have F22 := Lib.hid (F21.out.below hb)
  clear F21
  have F23 := Lib.hid (F22.out.addO (ho))
  clear F22
  have Rone1 := Lib.hid (show ∀ k, rows2 (.slice A3 (putA s l ctx a v g).length k3) (.slice A4 (putL s l ctx a v g).length k4) k → W7.heap.size ≤ k from ho.ge)
  have Rone2 := Lib.hid (show ∀ k, rows2 (.slice A3 (putA s l ctx a v g).length k3) (.slice A4 (putL s l ctx a v g).length k4) k → k < w8.heap.size from ho.lt)
  have Sw8 : W7.heap.size ≤ w8.heap.size := hb.size
  replace BB := Lib.hid (bl_then BB.out hb)
  clear ho hb
  have px_0 : w8.cell? ⟨w2.heap.size, 0, none⟩ = some (.slice (some ⟨g1, 0, none⟩) s.length c1) := (F23.out.blk 7 rfl).cell 0
  have px_1 : w8.cell? ⟨w2.heap.size, 1, none⟩ = some (.slice (some ⟨g2, 0, none⟩) l.length c3) := (F23.out.blk 7 rfl).cell 1
  have pc_0 : w8.cell? ⟨w4.heap.size, 0, none⟩ = some (.slice (some ⟨g3, 0, none⟩) ctx.length c4) := (F23.out.blk 4 rfl).cell 0
  have pc_1 : w8.cell? ⟨w4.heap.size, 1, none⟩ = some (.slice (some ⟨g4, 0, none⟩) 0 c5) := (F23.out.blk 4 rfl).cell 1
  have pp_0 : w8.cell? ⟨w.heap.size + 1, 0, none⟩ = some (.slice C ctx.length c2) := (F23.out.blk 13 rfl).cell 0
  have pp_1 : w8.cell? ⟨w.heap.size + 1, 1, none⟩ = some (.int .u32 a) := (F23.out.blk 13 rfl).cell 1
  have pp_2 : w8.cell? ⟨w.heap.size + 1, 2, none⟩ = some (.string v) := (F23.out.blk 13 rfl).cell 2
  have pp_3 : w8.cell? ⟨w.heap.size + 1, 3, none⟩ = some (.bool g) := (F23.out.blk 13 rfl).cell 3
  have px_lt : w2.heap.size < w8.heap.size := (F23.out.blk 7 rfl).lt
  have pc_lt : w4.heap.size < w8.heap.size := (F23.out.blk 4 rfl).lt
  have pp_lt : w.heap.size + 1 < w8.heap.size := (F23.out.blk 13 rfl).lt
  have ps_lt : w.heap.size < w8.heap.size := (F23.out.blk 14 rfl).lt
  go_wp2_with fail
  obtain ⟨W9, hW9⟩ : ∃ W : World, W = ((w8).alloc (.cells #[.slice A3 (putA s l ctx a v g).length k3, .slice A4 (putL s l ctx a v g).length k4] 25)).alloc (.cells #[.int .u32 (putD s l ctx a v g).a, .int .u64 (putD s l ctx a v g).n] 32) := ⟨_, rfl⟩
  rw [← hW9]
  have LW9 : Hid (Below w8.heap.size w8 W9) := Lib.hid (by rw [hW9]; exact (by repeat (first | exact Below.refl _ _ | refine bl_drewN ?_ _ | refine bl_drew ?_ | refine bl_alloc ?_ _)))
  have XW90 : Hid (GR.Blk W9 (w8.heap.size) 25 #[.slice A3 (putA s l ctx a v g).length k3, .slice A4 (putL s l ctx a v g).length k4]) := Lib.hid (by rw [hW9]; exact (GR.Blk.new _ _ _).alloc _)
  have XW91 : Hid (GR.Blk W9 (w8.heap.size + 1) 32 #[.int .u32 (putD s l ctx a v g).a, .int .u64 (putD s l ctx a v g).n]) := Lib.hid (by rw [hW9]; exact new_at _ _ _ (by simp))
  have SW9 : w8.heap.size < W9.heap.size := XW90.out.lt
  clear hW9
  clear px_0 px_1 px_lt pc_0 pc_1 pc_lt pp_0 pp_1 pp_2 pp_3 pp_lt
  clear ps_lt
  have F24 := Lib.hid (F23.out.below LW9.out)
  clear F23
  have F25 := Lib.hid (HS.addB F24.out (g := w8.heap.size) (t := 25) (cs := #[.slice A3 (putA s l ctx a v g).length k3, .slice A4 (putL s l ctx a v g).length k4]) (XW90.out))
  clear F24
  have F26 := Lib.hid (HS.addB F25.out (g := w8.heap.size + 1) (t := 32) (cs := #[.int .u32 (putD s l ctx a v g).a, .int .u64 (putD s l ctx a v g).n]) (XW91.out))
  clear F25
  replace BB := Lib.hid (bl_then BB.out LW9.out)
  refine (put_at _ _ _ _ _ _ _ _ _ s l ctx a v g _ ((F26.out.own 10 rfl).d.rd bma).2.2 ((F26.out.own 10 rfl).s.rd bml).2.2 ((F26.out.own 7 rfl).d.rd bmb).2.2 rfl rfl rfl ((F26.out.own 10 rfl).d.rd bma).2.1 ((F26.out.own 7 rfl).d.rd bmb).2.1 NS.out NL.out NC.out).mono ?_
  rintro e w10 ⟨v1, v2, rfl, ho, hb⟩
  obtain ⟨A5, n5, k5, rfl⟩ := own_slice ho.d jb1
  obtain ⟨A6, n6, k6, rfl⟩ := own_slice ho.s jb2
  obtain rfl : n5 = (putA s l ctx a v g).length := own_n' ho.d
  obtain rfl : n6 = (putL s l ctx a v g).length := own_n' ho.s
  have F27 := Lib.hid (F26.out.below hb)
  clear F26
  have F28 := Lib.hid (F27.out.addO (ho))
  clear F27
  have Rtwo1 := Lib.hid (show ∀ k, rows2 (.slice A5 (putA s l ctx a v g).length k5) (.slice A6 (putL s l ctx a v g).length k6) k → W9.heap.size ≤ k from ho.ge)
  have Rtwo2 := Lib.hid (show ∀ k, rows2 (.slice A5 (putA s l ctx a v g).length k5) (.slice A6 (putL s l ctx a v g).length k6) k → k < w10.heap.size from ho.lt)
  have Sw10 : W9.heap.size ≤ w10.heap.size := hb.size
  replace BB := Lib.hid (bl_then BB.out hb)
  clear ho hb
  have p1_0 : w10.cell? ⟨w8.heap.size, 0, none⟩ = some (.slice A3 (putA s l ctx a v g).length k3) := (F28.out.blk 2 rfl).cell 0
  have p1_1 : w10.cell? ⟨w8.heap.size, 1, none⟩ = some (.slice A4 (putL s l ctx a v g).length k4) := (F28.out.blk 2 rfl).cell 1
  have pw_0 : w10.cell? ⟨w6.heap.size, 0, none⟩ = some (.slice A1 (putA s l ctx a v g).length k1) := (F28.out.blk 5 rfl).cell 0
  have pw_1 : w10.cell? ⟨w6.heap.size, 1, none⟩ = some (.slice A2 (putL s l ctx a v g).length k2) := (F28.out.blk 5 rfl).cell 1
  have pwd_0 : w10.cell? ⟨w6.heap.size + 1, 0, none⟩ = some (.int .u32 (putD s l ctx a v g).a) := (F28.out.blk 4 rfl).cell 0
  have pwd_1 : w10.cell? ⟨w6.heap.size + 1, 1, none⟩ = some (.int .u64 (putD s l ctx a v g).n) := (F28.out.blk 4 rfl).cell 1
  have p1d_0 : w10.cell? ⟨w8.heap.size + 1, 0, none⟩ = some (.int .u32 (putD s l ctx a v g).a) := (F28.out.blk 1 rfl).cell 0
  have p1d_1 : w10.cell? ⟨w8.heap.size + 1, 1, none⟩ = some (.int .u64 (putD s l ctx a v g).n) := (F28.out.blk 1 rfl).cell 1
  have p1_lt : w8.heap.size < w10.heap.size := (F28.out.blk 2 rfl).lt
  have pw_lt : w6.heap.size < w10.heap.size := (F28.out.blk 5 rfl).lt
  have pwd_lt : w6.heap.size + 1 < w10.heap.size := (F28.out.blk 4 rfl).lt
  have p1d_lt : w8.heap.size + 1 < w10.heap.size := (F28.out.blk 1 rfl).lt
  have ee := EE.out
  have dd := DD.out
  go_wp2_with fail
  obtain ⟨W11, hW11⟩ : ∃ W : World, W = ((w10).alloc (.cells #[.slice A5 (putA s l ctx a v g).length k5, .slice A6 (putL s l ctx a v g).length k6] 25)).alloc (.cells #[.int .u32 (putD s l ctx a v g).a, .int .u64 (putD s l ctx a v g).n] 32) := ⟨_, rfl⟩
  rw [← hW11]
  have LW11 : Hid (Below w10.heap.size w10 W11) := Lib.hid (by rw [hW11]; exact (by repeat (first | exact Below.refl _ _ | refine bl_drewN ?_ _ | refine bl_drew ?_ | refine bl_alloc ?_ _)))
  have XW110 : Hid (GR.Blk W11 (w10.heap.size) 25 #[.slice A5 (putA s l ctx a v g).length k5, .slice A6 (putL s l ctx a v g).length k6]) := Lib.hid (by rw [hW11]; exact (GR.Blk.new _ _ _).alloc _)
  have XW111 : Hid (GR.Blk W11 (w10.heap.size + 1) 32 #[.int .u32 (putD s l ctx a v g).a, .int .u64 (putD s l ctx a v g).n]) := Lib.hid (by rw [hW11]; exact new_at _ _ _ (by simp))
  have SW11 : w10.heap.size < W11.heap.size := XW110.out.lt
  clear hW11
  clear p1_0 p1_1 p1_lt pw_0 pw_1 pw_lt pwd_0 pwd_1 pwd_lt p1d_0 p1d_1 p1d_lt
  have F29 := Lib.hid (F28.out.below LW11.out)
  clear F28
  have F30 := Lib.hid (HS.addB F29.out (g := w10.heap.size) (t := 25) (cs := #[.slice A5 (putA s l ctx a v g).length k5, .slice A6 (putL s l ctx a v g).length k6]) (XW110.out))
  clear F29
  have F31 := Lib.hid (HS.addB F30.out (g := w10.heap.size + 1) (t := 32) (cs := #[.int .u32 (putD s l ctx a v g).a, .int .u64 (putD s l ctx a v g).n]) (XW111.out))
  clear F30
  replace BB := Lib.hid (bl_then BB.out LW11.out)
  refine (same_self _ _ _ _ _ _ _ _ _ _ _ _ (putA s l ctx a v g) (putL s l ctx a v g) _ ((F31.out.own 5 rfl).d.rd jb1).2.2 ((F31.out.own 5 rfl).s.rd jb2).2.2 ((F31.out.own 8 rfl).d.rd jb1).2.2 ((F31.out.own 8 rfl).s.rd jb2).2.2 rfl rfl rfl rfl).mono ?_
  rintro e w12 ⟨rfl, hb⟩
  have F32 := Lib.hid (F31.out.below hb)
  clear F31
  replace BB := Lib.hid (bl_then BB.out hb)
  clear hb
  have p2_0 : w12.cell? ⟨w10.heap.size, 0, none⟩ = some (.slice A5 (putA s l ctx a v g).length k5) := (F32.out.blk 1 rfl).cell 0
  have p2_1 : w12.cell? ⟨w10.heap.size, 1, none⟩ = some (.slice A6 (putL s l ctx a v g).length k6) := (F32.out.blk 1 rfl).cell 1
  have pw_0 : w12.cell? ⟨w6.heap.size, 0, none⟩ = some (.slice A1 (putA s l ctx a v g).length k1) := (F32.out.blk 7 rfl).cell 0
  have pw_1 : w12.cell? ⟨w6.heap.size, 1, none⟩ = some (.slice A2 (putL s l ctx a v g).length k2) := (F32.out.blk 7 rfl).cell 1
  go_wp2_with fail
  clear p2_0 p2_1 pw_0 pw_1
  refine (same_self _ _ _ _ _ _ _ _ _ _ _ _ (putA s l ctx a v g) (putL s l ctx a v g) _ ((F32.out.own 2 rfl).d.rd jb1).2.2 ((F32.out.own 2 rfl).s.rd jb2).2.2 ((F32.out.own 8 rfl).d.rd jb1).2.2 ((F32.out.own 8 rfl).s.rd jb2).2.2 rfl rfl rfl rfl).mono ?_
  rintro e w13 ⟨rfl, hb⟩
  have F33 := Lib.hid (F32.out.below hb)
  clear F32
  replace BB := Lib.hid (bl_then BB.out hb)
  clear hb
  have px_0 : w13.cell? ⟨w2.heap.size, 0, none⟩ = some (.slice (some ⟨g1, 0, none⟩) s.length c1) := (F33.out.blk 12 rfl).cell 0
  have px_1 : w13.cell? ⟨w2.heap.size, 1, none⟩ = some (.slice (some ⟨g2, 0, none⟩) l.length c3) := (F33.out.blk 12 rfl).cell 1
  have ps_0 : w13.cell? ⟨w.heap.size, 0, none⟩ = some (.slice A s.length c) := (F33.out.blk 19 rfl).cell 0
  have ps_1 : w13.cell? ⟨w.heap.size, 1, none⟩ = some (.slice B l.length d) := (F33.out.blk 19 rfl).cell 1
  go_wp2_with fail
  clear px_0 px_1 ps_0 ps_1
  refine (kept_any g1 c1 g2 c3 _ A B c d s l _ (F33.out.rd 17 rfl) (F33.out.rd 16 rfl) sa sl (F33.out.own 14 rfl)).mono ?_
  rintro e w14 ⟨rfl, hb⟩
  have F34 := Lib.hid (F33.out.below hb)
  clear F33
  replace BB := Lib.hid (bl_then BB.out hb)
  clear hb
  have pc_0 : w14.cell? ⟨w4.heap.size, 0, none⟩ = some (.slice (some ⟨g3, 0, none⟩) ctx.length c4) := (F34.out.blk 9 rfl).cell 0
  have pc_1 : w14.cell? ⟨w4.heap.size, 1, none⟩ = some (.slice (some ⟨g4, 0, none⟩) 0 c5) := (F34.out.blk 9 rfl).cell 1
  have pp_0 : w14.cell? ⟨w.heap.size + 1, 0, none⟩ = some (.slice C ctx.length c2) := (F34.out.blk 18 rfl).cell 0
  have pp_1 : w14.cell? ⟨w.heap.size + 1, 1, none⟩ = some (.int .u32 a) := (F34.out.blk 18 rfl).cell 1
  have pp_2 : w14.cell? ⟨w.heap.size + 1, 2, none⟩ = some (.string v) := (F34.out.blk 18 rfl).cell 2
  have pp_3 : w14.cell? ⟨w.heap.size + 1, 3, none⟩ = some (.bool g) := (F34.out.blk 18 rfl).cell 3
  go_wp2_with fail
  clear pc_0 pc_1 pp_0 pp_1 pp_2 pp_3
  refine (kept_ctx g3 c4 g4 c5 _ C c2 ctx _ (F34.out.rd 15 rfl) sb (F34.out.own 11 rfl)).mono ?_
  rintro e w15 ⟨rfl, hb⟩
  have F35 := Lib.hid (F34.out.below hb)
  clear F34
  replace BB := Lib.hid (bl_then BB.out hb)
  clear hb
  have p1_0 : w15.cell? ⟨w8.heap.size, 0, none⟩ = some (.slice A3 (putA s l ctx a v g).length k3) := (F35.out.blk 4 rfl).cell 0
  have p1_1 : w15.cell? ⟨w8.heap.size, 1, none⟩ = some (.slice A4 (putL s l ctx a v g).length k4) := (F35.out.blk 4 rfl).cell 1
  have p2_0 : w15.cell? ⟨w10.heap.size, 0, none⟩ = some (.slice A5 (putA s l ctx a v g).length k5) := (F35.out.blk 1 rfl).cell 0
  have p2_1 : w15.cell? ⟨w10.heap.size, 1, none⟩ = some (.slice A6 (putL s l ctx a v g).length k6) := (F35.out.blk 1 rfl).cell 1
  have pw_0 : w15.cell? ⟨w6.heap.size, 0, none⟩ = some (.slice A1 (putA s l ctx a v g).length k1) := (F35.out.blk 7 rfl).cell 0
  have pw_1 : w15.cell? ⟨w6.heap.size, 1, none⟩ = some (.slice A2 (putL s l ctx a v g).length k2) := (F35.out.blk 7 rfl).cell 1
  have px_0 : w15.cell? ⟨w2.heap.size, 0, none⟩ = some (.slice (some ⟨g1, 0, none⟩) s.length c1) := (F35.out.blk 12 rfl).cell 0
  have px_1 : w15.cell? ⟨w2.heap.size, 1, none⟩ = some (.slice (some ⟨g2, 0, none⟩) l.length c3) := (F35.out.blk 12 rfl).cell 1
  have pc_0 : w15.cell? ⟨w4.heap.size, 0, none⟩ = some (.slice (some ⟨g3, 0, none⟩) ctx.length c4) := (F35.out.blk 9 rfl).cell 0
  have pc_1 : w15.cell? ⟨w4.heap.size, 1, none⟩ = some (.slice (some ⟨g4, 0, none⟩) 0 c5) := (F35.out.blk 9 rfl).cell 1
  go_wp2_with fail
  clear p1_0 p1_1 p2_0 p2_1 pw_0 pw_1 px_0 px_1 pc_0 pc_1
  clear ee dd EE
  have BBs : W1.heap.size ≤ w15.heap.size := BB.out.size
  obtain ⟨W16, hW16⟩ : ∃ W : World, W = w15.alloc (.cells #[.slice (some ⟨g1, 0, none⟩) s.length c1, .slice (some ⟨g2, 0, none⟩) l.length c3, .slice (some ⟨g3, 0, none⟩) ctx.length c4, .slice (some ⟨g4, 0, none⟩) 0 c5] 25) := ⟨_, rfl⟩
  rw [← hW16]
  have L16 : Hid (Below w15.heap.size w15 W16) := Lib.hid (by rw [hW16]; exact (by repeat (first | exact Below.refl _ _ | refine bl_drewN ?_ _ | refine bl_drew ?_ | refine bl_alloc ?_ _)))
  have O16 : Hid (GR.Own stK W16 W1.heap.size (.slice (some ⟨w15.heap.size, 0, none⟩) 2 2) [⟨some ⟨g1, 0, none⟩, s.length, c1, some ⟨g2, 0, none⟩, l.length, c3⟩, ⟨some ⟨g3, 0, none⟩, ctx.length, c4, some ⟨g4, 0, none⟩, 0, c5⟩]) := Lib.hid (by rw [hW16]; exact lit2 w15 W1.heap.size BBs _ _)
  clear hW16
  have F36 := Lib.hid (F35.out.below L16.out)
  clear F35
  replace BB := Lib.hid (bl_then BB.out L16.out)
  have HIn : Hid (InS W16 W1.heap.size [⟨some ⟨g1, 0, none⟩, s.length, c1, some ⟨g2, 0, none⟩, l.length, c3⟩, ⟨some ⟨g3, 0, none⟩, ctx.length, c4, some ⟨g4, 0, none⟩, 0, c5⟩] (fun i => if i = 0 then (s, l) else (ctx, []))) := Lib.hid (fun i hi => by
    match i, hi with
    | 0, _ => exact ⟨(F36.out.own 13 rfl), sa, sl, NS.out, NL.out⟩
    | 1, _ => exact ⟨OwnS.base (F36.out.own 10 rfl) (by omega), sb, by simp, NC.out, fun x hx => by cases hx⟩
    | n + 2, hi => exact absurd hi (by simp))
  have HO1 := Lib.hid (OwnS.base (B' := W1.heap.size) (F36.out.own 5 rfl) (by omega))
  have HO2 := Lib.hid (OwnS.base (B' := W1.heap.size) (F36.out.own 2 rfl) (by omega))
  have HO3 := Lib.hid (OwnS.base (B' := W1.heap.size) (F36.out.own 8 rfl) (by omega))
  have Bs16 : W1.heap.size ≤ W16.heap.size := BB.out.size
  refine (fresh_any W1.heap.size _ _ _ _ _ _ _ (putA s l ctx a v g) (putL s l ctx a v g) [⟨some ⟨g1, 0, none⟩, s.length, c1, some ⟨g2, 0, none⟩, l.length, c3⟩, ⟨some ⟨g3, 0, none⟩, ctx.length, c4, some ⟨g4, 0, none⟩, 0, c5⟩] _ W16 HO1.out HO2.out HO3.out (by have := HJ.out.1; omega) (by have := HJ.out.2; omega) HP.out.1 HP.out.2 O16.out (by simp) HIn.out Bs16
    (ApS.of_lt (C := W9.heap.size) (fun k hk => by have := Rone2.out k hk; omega) Rtwo1.out)
    (ApS.symm (ApS.of_lt (C := W7.heap.size) (fun k hk => by have := Rwant2.out k hk; omega) Rone1.out))
    (fun x hx => by
      rcases List.mem_cons.1 hx with rfl | hx
      · exact ApS.symm (ApS.of_lt (C := W7.heap.size) (fun k hk => by have := RX2.out k hk; omega) Rone1.out)
      · obtain rfl := List.mem_singleton.1 hx
        exact ApS.symm (ApS.of_lt (C := W7.heap.size) (fun k hk => by have := RY2.out k hk; omega) Rone1.out))
    (fun x hx => by
      rcases List.mem_cons.1 hx with rfl | hx
      · exact ApS.symm (ApS.of_lt (C := W9.heap.size) (fun k hk => by have := RX2.out k hk; omega) Rtwo1.out)
      · obtain rfl := List.mem_singleton.1 hx
        exact ApS.symm (ApS.of_lt (C := W9.heap.size) (fun k hk => by have := RY2.out k hk; omega) Rtwo1.out))
    (fun x hx => by
      rcases List.mem_cons.1 hx with rfl | hx
      · exact ApS.symm (ApS.of_lt (C := W5.heap.size) (fun k hk => by have := RX2.out k hk; omega) Rwant1.out)
      · obtain rfl := List.mem_singleton.1 hx
        exact ApS.symm (ApS.of_lt (C := W5.heap.size) (fun k hk => by have := RY2.out k hk; omega) Rwant1.out))
    (fun i j hi hj hij => by
      match i, j, hi, hj, hij with
      | 0, 0, _, _, h => exact absurd rfl h
      | 0, 1, _, _, _ => exact ApS.of_lt (C := W3.heap.size) (fun k hk => by have := RX2.out k hk; omega) RY1.out
      | 1, 0, _, _, _ => exact (ApS.of_lt (C := W3.heap.size) (fun k hk => by have := RX2.out k hk; omega) RY1.out).symm
      | 1, 1, _, _, h => exact absurd rfl h
      | n + 2, _, hi, _, _ => exact absurd hi (by simp)
      | 0, n + 2, _, hj, _ => exact absurd hj (by simp)
      | 1, n + 2, _, hj, _ => exact absurd hj (by simp))).mono ?_
  rintro e w17 ⟨rfl, ⟨C', hC', hlen⟩, hc⟩
  have Bpx : Hid (GR.Blk w17 w2.heap.size 25 #[.slice (some ⟨g1, 0, none⟩) s.length c1, .slice (some ⟨g2, 0, none⟩) l.length c3]) := Lib.hid (blk_fresh HO1.out HIn.out (F36.out.blk 12 rfl) hc)
  have Bpc : Hid (GR.Blk w17 w4.heap.size 25 #[.slice (some ⟨g3, 0, none⟩) ctx.length c4, .slice (some ⟨g4, 0, none⟩) 0 c5]) := Lib.hid (blk_fresh HO1.out HIn.out (F36.out.blk 9 rfl) hc)
  have Bp1 : Hid (GR.Blk w17 w8.heap.size 25 #[.slice A3 (putA s l ctx a v g).length k3, .slice A4 (putL s l ctx a v g).length k4]) := Lib.hid (blk_fresh HO1.out HIn.out (F36.out.blk 4 rfl) hc)
  have Bpp : Hid (GR.Blk w17 (w.heap.size + 1) 28 #[.slice C ctx.length c2, .int .u32 a, .string v, .bool g]) := Lib.hid (blk_chg (F36.out.blk 18 rfl) hc (fun hr => by
    have hlt := PPLT.out
    rcases hr with hr | ⟨x, hx, hr⟩
    · have := Rone1.out _ hr; omega
    · rcases List.mem_cons.1 hx with rfl | hx
      · have := RX1.out _ hr; omega
      · obtain rfl := List.mem_singleton.1 hx
        have := RY1.out _ hr; omega))
  have Lwd : Hid (w6.heap.size + 1 < W7.heap.size ∧ w8.heap.size + 1 < W9.heap.size) := Lib.hid ⟨XW71.out.lt, XW91.out.lt⟩
  have Bpwd : Hid (GR.Blk w17 (w6.heap.size + 1) 32 #[.int .u32 (putD s l ctx a v g).a, .int .u64 (putD s l ctx a v g).n]) := Lib.hid (blk_chg (F36.out.blk 6 rfl) hc (fun hr => by
    have hlo := Lwd.out
    rcases hr with hr | ⟨x, hx, hr⟩
    · first
        | (have := Rone2.out _ hr; omega)
        | (have := Rone1.out _ hr; omega)
    · rcases List.mem_cons.1 hx with rfl | hx
      · have := RX2.out _ hr; omega
      · obtain rfl := List.mem_singleton.1 hx
        have := RY2.out _ hr; omega))
  have Bp1d : Hid (GR.Blk w17 (w8.heap.size + 1) 32 #[.int .u32 (putD s l ctx a v g).a, .int .u64 (putD s l ctx a v g).n]) := Lib.hid (blk_chg (F36.out.blk 3 rfl) hc (fun hr => by
    have hlo := Lwd.out
    rcases hr with hr | ⟨x, hx, hr⟩
    · first
        | (have := Rone2.out _ hr; omega)
        | (have := Rone1.out _ hr; omega)
    · rcases List.mem_cons.1 hx with rfl | hx
      · have := RX2.out _ hr; omega
      · obtain rfl := List.mem_singleton.1 hx
        have := RY2.out _ hr; omega))
  have x17 := hC' 0 (by simp)
  have y17 := hC' 1 (by simp)
  have xl := hlen 0 (by simp)
  have yl := hlen 1 (by simp)
  generalize C' 0 = z0 at x17 xl
  generalize C' 1 = z1 at y17 yl
  obtain ⟨s', l'⟩ := z0
  obtain ⟨ctx', m'⟩ := z1
  have xl1 : s'.length = s.length := xl.1
  have xl2 : l'.length = l.length := xl.2
  have yl1 : ctx'.length = ctx.length := yl.1
  have yl2 : m'.length = 0 := yl.2
  obtain rfl := List.eq_nil_of_length_eq_zero yl2
  have NS' := Lib.hid x17.2.2.2.1
  have NL' := Lib.hid x17.2.2.2.2
  have NC' := Lib.hid y17.2.2.2.1
  have OX : Hid (OwnS w17 W1.heap.size (.slice (some ⟨g1, 0, none⟩) s.length c1) (.slice (some ⟨g2, 0, none⟩) l.length c3) s' l') := Lib.hid x17.1
  have OY : Hid (OwnS w17 W1.heap.size (.slice (some ⟨g3, 0, none⟩) ctx.length c4) (.slice (some ⟨g4, 0, none⟩) 0 c5) ctx' []) := Lib.hid y17.1
  have BW : Hid (Below W1.heap.size W1 w17) := Lib.hid (Below.trans BB.out (hc.below Bs16 (fun k hk => by
    rcases hk with hk | ⟨x, hx, hk⟩
    · have := Rone1.out k hk; omega
    · rcases List.mem_cons.1 hx with rfl | hx
      · exact RX1.out k hk
      · obtain rfl := List.mem_singleton.1 hx
        have := RY1.out k hk; omega)))
  clear x17 y17 xl yl yl2 hC' hlen hc HIn O16 HO1 HO2 HO3 Rone1 Rone2 Rtwo1 Rtwo2 Rwant1 Rwant2 RX1 RY1
  have F37 := Lib.hid (HS.nil w17)
  have F38 := Lib.hid (HS.addB F37.out (g := w2.heap.size) (t := 25) (cs := #[.slice (some ⟨g1, 0, none⟩) s.length c1, .slice (some ⟨g2, 0, none⟩) l.length c3]) (Bpx.out))
  clear F37
  have F39 := Lib.hid (HS.addB F38.out (g := w4.heap.size) (t := 25) (cs := #[.slice (some ⟨g3, 0, none⟩) ctx.length c4, .slice (some ⟨g4, 0, none⟩) 0 c5]) (Bpc.out))
  clear F38
  have F40 := Lib.hid (HS.addB F39.out (g := w8.heap.size) (t := 25) (cs := #[.slice A3 (putA s l ctx a v g).length k3, .slice A4 (putL s l ctx a v g).length k4]) (Bp1.out))
  clear F39
  have F41 := Lib.hid (HS.addB F40.out (g := w8.heap.size + 1) (t := 32) (cs := #[.int .u32 (putD s l ctx a v g).a, .int .u64 (putD s l ctx a v g).n]) (Bp1d.out))
  clear F40
  have F42 := Lib.hid (HS.addB F41.out (g := w6.heap.size + 1) (t := 32) (cs := #[.int .u32 (putD s l ctx a v g).a, .int .u64 (putD s l ctx a v g).n]) (Bpwd.out))
  clear F41
  have F43 := Lib.hid (HS.addB F42.out (g := w.heap.size + 1) (t := 28) (cs := #[.slice C ctx.length c2, .int .u32 a, .string v, .bool g]) (Bpp.out))
  clear F42
  have F44 := Lib.hid (F43.out.addO (OX.out))
  clear F43
  have F45 := Lib.hid (F44.out.addO (OY.out))
  clear F44
  have bxd : s'.length * 16 ≤ 140737488355328 := by omega
  have bxs : l'.length * 40 ≤ 140737488355328 := by omega
  have byd : ctx'.length * 16 ≤ 140737488355328 := by omega
  have jc1 : (putA s' l' ctx' a v g).length * 16 ≤ 140737488355328 := by have := (put_small s' l' ctx' a v g).1; omega
  have jc2 : (putL s' l' ctx' a v g).length * 40 ≤ 140737488355328 := by have := (put_small s' l' ctx' a v g).2; omega
  have EL := Lib.hid xl1
  have EL2 := Lib.hid xl2
  have EL3 := Lib.hid yl1
  clear xl1 xl2 yl1
  have h17 : W1.heap.size ≤ w17.heap.size := BW.out.size
  have pc_0 : w17.cell? ⟨w4.heap.size, 0, none⟩ = some (.slice (some ⟨g3, 0, none⟩) ctx.length c4) := (F45.out.blk 6 rfl).cell 0
  have pc_1 : w17.cell? ⟨w4.heap.size, 1, none⟩ = some (.slice (some ⟨g4, 0, none⟩) 0 c5) := (F45.out.blk 6 rfl).cell 1
  have pc_lt : w4.heap.size < w17.heap.size := (F45.out.blk 6 rfl).lt
  have px_lt : w2.heap.size < w17.heap.size := (F45.out.blk 7 rfl).lt
  have pp_lt : w.heap.size + 1 < w17.heap.size := (F45.out.blk 2 rfl).lt
  go_wp2_with fail
  clear pc_0 pc_1
  refine (twin_at _ _ _ _ _ _ ctx' [] _ ((F45.out.own 0 rfl).d.rd byd).2.2 (GR.Own.rd (F45.out.own 0 rfl).s (by simp)).2.2 EL3.out.symm rfl).mono ?_
  rintro e w18 ⟨v1, v2, rfl, ho, hb⟩
  obtain ⟨An1, nn1, kn1, rfl⟩ := own_slice ho.d byd
  obtain ⟨An2, nn2, kn2, rfl⟩ := own_slice ho.s (by simp)
  obtain rfl : nn1 = ctx'.length := own_n' ho.d
  have F46 := Lib.hid (F45.out.below hb)
  clear F45
  have F47 := Lib.hid (F46.out.addO (ho))
  clear F46
  have BT := Lib.hid hb
  clear ho hb pc_lt px_lt pp_lt
  go_upto_region 11 with fail
  obtain ⟨W19, hW19⟩ : ∃ W : World, W = w18.alloc (.cells #[.slice An1 ctx'.length kn1, .slice An2 nn2 kn2] 25) := ⟨_, rfl⟩
  rw [← hW19]
  have L19 : Hid (Below w18.heap.size w18 W19) := Lib.hid (by rw [hW19]; exact (by repeat (first | exact Below.refl _ _ | refine bl_drewN ?_ _ | refine bl_drew ?_ | refine bl_alloc ?_ _)))
  have X19 : Hid (GR.Blk W19 w18.heap.size 25 #[.slice An1 ctx'.length kn1, .slice An2 nn2 kn2]) := Lib.hid (by rw [hW19]; exact GR.Blk.new _ _ _)
  clear hW19
  have F48 := Lib.hid (F47.out.below L19.out)
  clear F47
  have BT2 := Lib.hid (bl_then BT.out L19.out)
  have F49 := Lib.hid (HS.addB F48.out (g := w18.heap.size) (t := 25) (cs := #[(.slice An1 ctx'.length kn1), (.slice An2 nn2 kn2)]) (X19.out))
  clear F48
  have K0 : Hid (W19.cell? ⟨w2.heap.size, 0, none⟩ = some (.slice (some ⟨g1, 0, none⟩) s.length c1)) := Lib.hid ((F49.out.blk 9 rfl).cell 0)
  have K1 : Hid (W19.cell? ⟨w2.heap.size, 1, none⟩ = some (.slice (some ⟨g2, 0, none⟩) l.length c3)) := Lib.hid ((F49.out.blk 9 rfl).cell 1)
  have K2 : Hid (W19.cell? ⟨w18.heap.size, 0, none⟩ = some ((.slice An1 ctx'.length kn1))) := Lib.hid ((F49.out.blk 0 rfl).cell 0)
  have K3 : Hid (W19.cell? ⟨w.heap.size + 1, 1, none⟩ = some (.int .u32 a)) := Lib.hid ((F49.out.blk 4 rfl).cell 1)
  have K4 : Hid (W19.cell? ⟨w.heap.size + 1, 2, none⟩ = some (.string v)) := Lib.hid ((F49.out.blk 4 rfl).cell 2)
  have K5 : Hid (W19.cell? ⟨w.heap.size + 1, 3, none⟩ = some (.bool g)) := Lib.hid ((F49.out.blk 4 rfl).cell 3)
  have RXd := Lib.hid (GR.Own.rd (F49.out.own 3 rfl).d bxd).2.2
  have RXs := Lib.hid (GR.Own.rd (F49.out.own 3 rfl).s bxs).2.2
  have RNd := Lib.hid (GR.Own.rd (F49.out.own 1 rfl).d byd).2.2
  have BD0 := Lib.hid (F49.out.blk 5 rfl)
  have PXL := Lib.hid (F49.out.blk 9 rfl).lt
  have PNL := Lib.hid (F49.out.blk 0 rfl).lt
  have PPL := Lib.hid (F49.out.blk 4 rfl).lt
  have PDL := Lib.hid BD0.out.lt
  have PDN : Hid (w2.heap.size ≠ w6.heap.size + 1 ∧ w18.heap.size ≠ w6.heap.size + 1 ∧ w.heap.size + 1 ≠ w6.heap.size + 1) := Lib.hid (by have h1 := Bpwd.out.lt; have h2 := BT.out.size; have h3 := PPLT.out; refine ⟨?_, ?_, ?_⟩ <;> omega)
  have q18 : w6.heap.size + 1 < W19.heap.size := BD0.out.lt
  go_cut [9, 17] from 120 (fun s9 s17 wx => ∃ (gz : Nat) (Az1 Az2 : Option Addr) (kz1 kz2 : Nat), s9 = .int .i64 (putE s' l' ctx' a v g) ∧ s17 = .pointer (some ⟨gz, 0, none⟩) ∧ W19.heap.size ≤ gz ∧ Hid (GR.Blk wx gz 25 #[.slice Az1 (putA s' l' ctx' a v g).length kz1, .slice Az2 (putL s' l' ctx' a v g).length kz2]) ∧
    Hid (OwnS wx W19.heap.size (.slice Az1 (putA s' l' ctx' a v g).length kz1) (.slice Az2 (putL s' l' ctx' a v g).length kz2) (putA s' l' ctx' a v g) (putL s' l' ctx' a v g)) ∧ Hid (GR.Blk wx (w6.heap.size + 1) 32 #[.int .u32 (putD s' l' ctx' a v g).a, .int .u64 (putD s' l' ctx' a v g).n]) ∧ Hid (Chg (fun k => k = w6.heap.size + 1) W19 wx))
  case first =>
    have HR := Lib.hid (Below.refl W19.heap.size W19)
    refine wp_region_held_drew (S := fun w' => w'.cell? ⟨w2.heap.size, 0, none⟩ = some (.slice (some ⟨g1, 0, none⟩) s.length c1) ∧ w'.cell? ⟨w2.heap.size, 1, none⟩ = some (.slice (some ⟨g2, 0, none⟩) l.length c3) ∧ w'.cell? ⟨w18.heap.size, 0, none⟩ = some ((.slice An1 ctx'.length kn1)) ∧ w'.cell? ⟨w.heap.size + 1, 1, none⟩ = some (.int .u32 a) ∧ w'.cell? ⟨w.heap.size + 1, 2, none⟩ = some (.string v) ∧ w'.cell? ⟨w.heap.size + 1, 3, none⟩ = some (.bool g)) (by kernel_rfl) ?_ (fun hHeld => ?_)
    · exact ⟨K0.out, K1.out, K2.out, K3.out, K4.out, K5.out⟩
    refine wpAnyH_take (i := 0) (oi := { dst := some 121, op := Op.load 25 (Operand.tmp 5), type := 25, pos := "law.go:165", after := #[], guard := none }) (v := ?_) rfl (by kernel_rfl) (by kernel_rfl) (by kernel_rfl) (fun _ _ _ h => h) (Or.inl ⟨by rfl, ?_⟩) (by assumption) ?_
    rotate_left
    · intro w_ hSw
      (try dsimp only at hSw)
      go_simp
      first | done | with_reducible rfl
    try simp only [Act.put, List.setIfInBounds_toArray, List.set_cons_zero, List.set_cons_succ]
    refine wpAnyH_take (i := 2) (oi := { dst := some 123, op := Op.fieldAddr 25 (Operand.tmp 16) 0, type := 0, pos := "law.go:165", after := #[], guard := none }) (v := ?_) rfl (by kernel_rfl) (by kernel_rfl) (by kernel_rfl) (fun _ _ _ h => h) (Or.inl ⟨by rfl, ?_⟩) (by assumption) ?_
    rotate_left
    · intro w_ hSw
      (try dsimp only at hSw)
      go_simp
      first | done | with_reducible rfl
    try simp only [Act.put, List.setIfInBounds_toArray, List.set_cons_zero, List.set_cons_succ]
    refine wpAnyH_take (i := 3) (oi := { dst := some 124, op := Op.load 22 (Operand.tmp 123), type := 22, pos := "law.go:165", after := #[{ on := 2, ground := Ground.data }], guard := none }) (v := ?_) rfl (by kernel_rfl) (by kernel_rfl) (by kernel_rfl) (fun _ _ _ h => h) (Or.inl ⟨by rfl, ?_⟩) (by assumption) ?_
    rotate_left
    · intro w_ hSw
      (try dsimp only at hSw)
      go_simp
      first | done | with_reducible rfl
    try simp only [Act.put, List.setIfInBounds_toArray, List.set_cons_zero, List.set_cons_succ]
    refine wpAnyH_take (i := 4) (oi := { dst := some 125, op := Op.fieldAddr 28 (Operand.tmp 3) 1, type := 0, pos := "law.go:165", after := #[], guard := none }) (v := ?_) rfl (by kernel_rfl) (by kernel_rfl) (by kernel_rfl) (fun _ _ _ h => h) (Or.inl ⟨by rfl, ?_⟩) (by assumption) ?_
    rotate_left
    · intro w_ hSw
      (try dsimp only at hSw)
      go_simp
      first | done | with_reducible rfl
    try simp only [Act.put, List.setIfInBounds_toArray, List.set_cons_zero, List.set_cons_succ]
    refine wpAnyH_take (i := 5) (oi := { dst := some 126, op := Op.load 26 (Operand.tmp 125), type := 26, pos := "law.go:165", after := #[{ on := 4, ground := Ground.data }], guard := none }) (v := ?_) rfl (by kernel_rfl) (by kernel_rfl) (by kernel_rfl) (fun _ _ _ h => h) (Or.inl ⟨by rfl, ?_⟩) (by assumption) ?_
    rotate_left
    · intro w_ hSw
      (try dsimp only at hSw)
      go_simp
      first | done | with_reducible rfl
    try simp only [Act.put, List.setIfInBounds_toArray, List.set_cons_zero, List.set_cons_succ]
    refine wpAnyH_take (i := 6) (oi := { dst := some 127, op := Op.fieldAddr 28 (Operand.tmp 3) 2, type := 0, pos := "law.go:165", after := #[], guard := none }) (v := ?_) rfl (by kernel_rfl) (by kernel_rfl) (by kernel_rfl) (fun _ _ _ h => h) (Or.inl ⟨by rfl, ?_⟩) (by assumption) ?_
    rotate_left
    · intro w_ hSw
      (try dsimp only at hSw)
      go_simp
      first | done | with_reducible rfl
    try simp only [Act.put, List.setIfInBounds_toArray, List.set_cons_zero, List.set_cons_succ]
    refine wpAnyH_take (i := 7) (oi := { dst := some 128, op := Op.load 9 (Operand.tmp 127), type := 9, pos := "law.go:165", after := #[{ on := 6, ground := Ground.data }], guard := none }) (v := ?_) rfl (by kernel_rfl) (by kernel_rfl) (by kernel_rfl) (fun _ _ _ h => h) (Or.inl ⟨by rfl, ?_⟩) (by assumption) ?_
    rotate_left
    · intro w_ hSw
      (try dsimp only at hSw)
      go_simp
      first | done | with_reducible rfl
    try simp only [Act.put, List.setIfInBounds_toArray, List.set_cons_zero, List.set_cons_succ]
    refine wpAnyH_take (i := 8) (oi := { dst := some 129, op := Op.fieldAddr 28 (Operand.tmp 3) 3, type := 0, pos := "law.go:165", after := #[], guard := none }) (v := ?_) rfl (by kernel_rfl) (by kernel_rfl) (by kernel_rfl) (fun _ _ _ h => h) (Or.inl ⟨by rfl, ?_⟩) (by assumption) ?_
    rotate_left
    · intro w_ hSw
      (try dsimp only at hSw)
      go_simp
      first | done | with_reducible rfl
    try simp only [Act.put, List.setIfInBounds_toArray, List.set_cons_zero, List.set_cons_succ]
    refine wpAnyH_take (i := 9) (oi := { dst := some 130, op := Op.load 4 (Operand.tmp 129), type := 4, pos := "law.go:165", after := #[{ on := 8, ground := Ground.data }], guard := none }) (v := ?_) rfl (by kernel_rfl) (by kernel_rfl) (by kernel_rfl) (fun _ _ _ h => h) (Or.inl ⟨by rfl, ?_⟩) (by assumption) ?_
    rotate_left
    · intro w_ hSw
      (try dsimp only at hSw)
      go_simp
      first | done | with_reducible rfl
    try simp only [Act.put, List.setIfInBounds_toArray, List.set_cons_zero, List.set_cons_succ]
    refine wpAnyH_ready (rs := [1, 15]) (by kernel_rfl) (by simp) ?_
    refine AllReadyH.cons (o := { dst := some 122, op := Op.call { callee := Callee.value (Operand.func 18), args := #[Operand.tmp 121], argTypes := #[25] }, type := 25, pos := "law.go:165", after := #[{ on := 0, ground := Ground.data }], guard := none }) rfl (fun K hK => ?_) (AllReadyH.cons (o := { dst := some 17, op := Op.alloc 25, type := 0, pos := "law.go:165", after := #[], guard := none }) rfl (fun K hK => ?_) (AllReadyH.nil))
    · skip
      go_simp
      go_at_call 18
      refine (twin_at _ _ _ _ _ _ s' l' _ (GR.Rd.below RXd.out (by repeat (first | exact HR.out | refine bl_drewN ?_ _ | refine bl_drew ?_ | refine bl_alloc ?_ _))) (GR.Rd.below RXs.out (by repeat (first | exact HR.out | refine bl_drewN ?_ _ | refine bl_drew ?_ | refine bl_alloc ?_ _))) EL.out.symm EL2.out.symm).mono ?_
      rintro e wx ⟨v1, v2, rfl, ho, hb2⟩
      obtain ⟨Ax1, nx1, kx1, rfl⟩ := own_slice ho.d bxd
      obtain ⟨Ax2, nx2, kx2, rfl⟩ := own_slice ho.s bxs
      obtain rfl : nx1 = s'.length := own_n' ho.d
      obtain rfl : nx2 = l'.length := own_n' ho.s
      have Tx := Lib.hid (OwnS.base (B' := W19.heap.size) ho (Below.size (w := W19) (by repeat (first | exact HR.out | refine bl_drewN ?_ _ | refine bl_drew ?_ | refine bl_alloc ?_ _))))
      clear ho
      have N_ := Lib.hid (bl_then (w := W19) (by repeat (first | exact HR.out | refine bl_drewN ?_ _ | refine bl_drew ?_ | refine bl_alloc ?_ _)) hb2)
      clear hb2 HR
      have HR := N_
      clear N_
      have hs_wx : W19.heap.size ≤ wx.heap.size := HR.out.size
      refine hK.out _ _ ?_ (fun hHeld => ?_)
      · exact (fun (CK : Chg (fun k => k = w6.heap.size + 1) W19 _) => ⟨chg_cell CK PXL.out PDN.out.1 K0.out, chg_cell CK PXL.out PDN.out.1 K1.out, chg_cell CK PNL.out PDN.out.2.1 K2.out, chg_cell CK PPL.out PDN.out.2.2 K3.out, chg_cell CK PPL.out PDN.out.2.2 K4.out, chg_cell CK PPL.out PDN.out.2.2 K5.out⟩) (by repeat (first | exact chg_bl HR.out | refine chg_drewN ?_ _ | refine chg_drew ?_ | refine chgB_alloc ?_ _ | refine chgB_set ?_ (by first | exact .inl rfl | exact .inr (Nat.le_refl _) | exact .inr hs_wx | exact .inr hs_wz)))
      clear hK K
      try simp only [Act.put, List.setIfInBounds_toArray, List.set_cons_zero, List.set_cons_succ]
      refine wpAnyH_ready (rs := [10, 15]) (by kernel_rfl) (by simp) ?_
      refine AllReadyH.cons (o := { dst := some 131, op := Op.call { callee := Callee.value (Operand.func 13), args := #[Operand.tmp 122, Operand.tmp 124, Operand.tmp 126, Operand.tmp 128, Operand.tmp 130], argTypes := #[25, 22, 26, 9, 4] }, type := 34, pos := "law.go:165", after := #[{ on := 1, ground := Ground.data }, { on := 3, ground := Ground.data }, { on := 5, ground := Ground.data }, { on := 7, ground := Ground.data }, { on := 9, ground := Ground.data }, { on := 1, ground := Ground.chain }], guard := none }) rfl (fun K hK => ?_) (AllReadyH.cons (o := { dst := some 17, op := Op.alloc 25, type := 0, pos := "law.go:165", after := #[], guard := none }) rfl (fun K hK => ?_) (AllReadyH.nil))
      · skip
        go_simp
        go_at_call 13
        refine (refPut_at _ _ _ _ _ _ _ _ _ s' l' ctx' a v g _ (GR.Own.rd (OwnS.d (OwnS.below (w := wx) Tx.out (by repeat (first | exact Below.refl _ _ | refine bl_drewN ?_ _ | refine bl_drew ?_ | refine bl_alloc ?_ _)))) bxd).2.2 (GR.Own.rd (OwnS.s (OwnS.below (w := wx) Tx.out (by repeat (first | exact Below.refl _ _ | refine bl_drewN ?_ _ | refine bl_drew ?_ | refine bl_alloc ?_ _)))) bxs).2.2 (GR.Rd.below RNd.out (by repeat (first | exact HR.out | refine bl_drewN ?_ _ | refine bl_drew ?_ | refine bl_alloc ?_ _))) rfl rfl rfl NS'.out NL'.out NC'.out).mono ?_
        rintro e wz ⟨v1, v2, rfl, ho, hb2⟩
        obtain ⟨Az1, nz1, kz1, rfl⟩ := own_slice ho.d jc1
        obtain ⟨Az2, nz2, kz2, rfl⟩ := own_slice ho.s jc2
        obtain rfl : nz1 = (putA s' l' ctx' a v g).length := own_n' ho.d
        obtain rfl : nz2 = (putL s' l' ctx' a v g).length := own_n' ho.s
        have T_ := Lib.hid (OwnS.below (OwnS.below (w := wx) Tx.out (by repeat (first | exact Below.refl _ _ | refine bl_drewN ?_ _ | refine bl_drew ?_ | refine bl_alloc ?_ _))) hb2)
        clear Tx
        have Tx := T_
        clear T_
        have TZ := Lib.hid (OwnS.base (B' := W19.heap.size) ho (Below.size (w := W19) (by repeat (first | exact HR.out | refine bl_drewN ?_ _ | refine bl_drew ?_ | refine bl_alloc ?_ _))))
        clear ho
        have N_ := Lib.hid (bl_then (w := W19) (by repeat (first | exact HR.out | refine bl_drewN ?_ _ | refine bl_drew ?_ | refine bl_alloc ?_ _)) hb2)
        clear hb2 HR
        have HR := N_
        clear N_
        have hs_wz : W19.heap.size ≤ wz.heap.size := HR.out.size
        have BD := Lib.hid (BD0.out.below HR.out BD0.out.lt)
        have q0 := BD.out.cell 0
        have q1 := BD.out.cell 1
        have qf0 := BD.out.frozen 0
        have qf1 := BD.out.frozen 1
        have qlt := BD.out.lt
        refine hK.out _ _ ?_ (fun hHeld => ?_)
        · exact (fun (CK : Chg (fun k => k = w6.heap.size + 1) W19 _) => ⟨chg_cell CK PXL.out PDN.out.1 K0.out, chg_cell CK PXL.out PDN.out.1 K1.out, chg_cell CK PNL.out PDN.out.2.1 K2.out, chg_cell CK PPL.out PDN.out.2.2 K3.out, chg_cell CK PPL.out PDN.out.2.2 K4.out, chg_cell CK PPL.out PDN.out.2.2 K5.out⟩) (by repeat (first | exact chg_bl HR.out | refine chg_drewN ?_ _ | refine chg_drew ?_ | refine chgB_alloc ?_ _ | refine chgB_set ?_ (by first | exact .inl rfl | exact .inr (Nat.le_refl _) | exact .inr hs_wx | exact .inr hs_wz)))
        clear hK K
        try simp only [Act.put, List.setIfInBounds_toArray, List.set_cons_zero, List.set_cons_succ]
        refine wpAnyH_take (i := 11) (oi := { dst := some 120, op := Op.move (Operand.tmp 131), type := 34, pos := "law.go:165", after := #[{ on := 10, ground := Ground.data }], guard := none }) (v := ?_) rfl (by kernel_rfl) (by kernel_rfl) (by kernel_rfl) (fun _ _ _ h => h) (Or.inl ⟨by rfl, ?_⟩) (by assumption) ?_
        rotate_left
        · intro w_ hSw
          (try dsimp only at hSw)
          go_simp
          first | done | with_reducible rfl
        try simp only [Act.put, List.setIfInBounds_toArray, List.set_cons_zero, List.set_cons_succ]
        refine wpAnyH_take (i := 12) (oi := { dst := some 132, op := Op.extract (Operand.tmp 120) 0, type := 25, pos := "law.go:165", after := #[{ on := 11, ground := Ground.data }], guard := none }) (v := ?_) rfl (by kernel_rfl) (by kernel_rfl) (by kernel_rfl) (fun _ _ _ h => h) (Or.inl ⟨by rfl, ?_⟩) (by assumption) ?_
        rotate_left
        · intro w_ hSw
          (try dsimp only at hSw)
          go_simp
          first | done | with_reducible rfl
        try simp only [Act.put, List.setIfInBounds_toArray, List.set_cons_zero, List.set_cons_succ]
        refine wpAnyH_take (i := 13) (oi := { dst := some 133, op := Op.extract (Operand.tmp 120) 1, type := 32, pos := "law.go:165", after := #[{ on := 11, ground := Ground.data }, { on := 16, ground := Ground.gcOnly Departure.lateStores }], guard := none }) (v := ?_) rfl (by kernel_rfl) (by kernel_rfl) (by kernel_rfl) (fun _ _ _ h => h) (Or.inl ⟨by rfl, ?_⟩) (by assumption) ?_
        rotate_left
        · intro w_ hSw
          (try dsimp only at hSw)
          go_simp
          first | done | with_reducible rfl
        try simp only [Act.put, List.setIfInBounds_toArray, List.set_cons_zero, List.set_cons_succ]
        refine wpAnyH_take (i := 14) (oi := { dst := some 134, op := Op.extract (Operand.tmp 120) 2, type := 33, pos := "law.go:165", after := #[{ on := 11, ground := Ground.data }, { on := 17, ground := Ground.gcOnly Departure.lateStores }], guard := none }) (v := ?_) rfl (by kernel_rfl) (by kernel_rfl) (by kernel_rfl) (fun _ _ _ h => h) (Or.inl ⟨by rfl, ?_⟩) (by assumption) ?_
        rotate_left
        · intro w_ hSw
          (try dsimp only at hSw)
          go_simp
          first | done | with_reducible rfl
        try simp only [Act.put, List.setIfInBounds_toArray, List.set_cons_zero, List.set_cons_succ]
        refine wpAnyH_ready (rs := [15]) (by kernel_rfl) (by simp) ?_
        refine AllReadyH.cons (o := { dst := some 17, op := Op.alloc 25, type := 0, pos := "law.go:165", after := #[], guard := none }) rfl (fun K hK => ?_) (AllReadyH.nil)
        go_simp
        skip
        refine hK.out _ _ ?_ (fun hHeld => ?_)
        · exact (fun (CK : Chg (fun k => k = w6.heap.size + 1) W19 _) => ⟨chg_cell CK PXL.out PDN.out.1 K0.out, chg_cell CK PXL.out PDN.out.1 K1.out, chg_cell CK PNL.out PDN.out.2.1 K2.out, chg_cell CK PPL.out PDN.out.2.2 K3.out, chg_cell CK PPL.out PDN.out.2.2 K4.out, chg_cell CK PPL.out PDN.out.2.2 K5.out⟩) (by repeat (first | exact chg_bl HR.out | refine chg_drewN ?_ _ | refine chg_drew ?_ | refine chgB_alloc ?_ _ | refine chgB_set ?_ (by first | exact .inl rfl | exact .inr (Nat.le_refl _) | exact .inr hs_wx | exact .inr hs_wz)))
        clear hK K
        try simp only [Act.put, List.setIfInBounds_toArray, List.set_cons_zero, List.set_cons_succ]
        refine wpAnyH_ready (rs := [16]) (by kernel_rfl) (by simp) ?_
        refine AllReadyH.cons (o := { dst := none, op := Op.store 25 (Operand.tmp 17) (Operand.tmp 132), type := 0, pos := "law.go:165", after := #[{ on := 15, ground := Ground.data }, { on := 12, ground := Ground.data }, { on := 10, ground := Ground.chain }, { on := 0, ground := Ground.phase }, { on := 1, ground := Ground.phase }, { on := 2, ground := Ground.phase }, { on := 3, ground := Ground.phase }, { on := 4, ground := Ground.phase }, { on := 5, ground := Ground.phase }, { on := 6, ground := Ground.phase }, { on := 7, ground := Ground.phase }, { on := 8, ground := Ground.phase }, { on := 9, ground := Ground.phase }, { on := 10, ground := Ground.phase }, { on := 11, ground := Ground.phase }, { on := 12, ground := Ground.phase }, { on := 13, ground := Ground.textOnly Departure.lateStores }, { on := 14, ground := Ground.textOnly Departure.lateStores }, { on := 15, ground := Ground.phase }], guard := none }) rfl (fun K hK => ?_) (AllReadyH.nil)
        go_simp
        skip
        refine hK.out _ _ ?_ (fun hHeld => ?_)
        · exact (fun (CK : Chg (fun k => k = w6.heap.size + 1) W19 _) => ⟨chg_cell CK PXL.out PDN.out.1 K0.out, chg_cell CK PXL.out PDN.out.1 K1.out, chg_cell CK PNL.out PDN.out.2.1 K2.out, chg_cell CK PPL.out PDN.out.2.2 K3.out, chg_cell CK PPL.out PDN.out.2.2 K4.out, chg_cell CK PPL.out PDN.out.2.2 K5.out⟩) (by repeat (first | exact chg_bl HR.out | refine chg_drewN ?_ _ | refine chg_drew ?_ | refine chgB_alloc ?_ _ | refine chgB_set ?_ (by first | exact .inl rfl | exact .inr (Nat.le_refl _) | exact .inr hs_wx | exact .inr hs_wz)))
        clear hK K
        try simp only [Act.put, List.setIfInBounds_toArray, List.set_cons_zero, List.set_cons_succ]
        refine wpAnyH_ready (rs := [17]) (by kernel_rfl) (by simp) ?_
        refine AllReadyH.cons (o := { dst := none, op := Op.store 32 (Operand.tmp 8) (Operand.tmp 133), type := 0, pos := "law.go:165", after := #[{ on := 13, ground := Ground.data }, { on := 16, ground := Ground.chain }, { on := 0, ground := Ground.phase }, { on := 1, ground := Ground.phase }, { on := 2, ground := Ground.phase }, { on := 3, ground := Ground.phase }, { on := 4, ground := Ground.phase }, { on := 5, ground := Ground.phase }, { on := 6, ground := Ground.phase }, { on := 7, ground := Ground.phase }, { on := 8, ground := Ground.phase }, { on := 9, ground := Ground.phase }, { on := 10, ground := Ground.phase }, { on := 11, ground := Ground.phase }, { on := 12, ground := Ground.phase }, { on := 13, ground := Ground.phase }, { on := 14, ground := Ground.textOnly Departure.lateStores }, { on := 15, ground := Ground.phase }, { on := 16, ground := Ground.phase }], guard := none }) rfl (fun K hK => ?_) (AllReadyH.nil)
        go_simp
        skip
        refine hK.out _ _ ?_ (fun hHeld => ?_)
        · exact (fun (CK : Chg (fun k => k = w6.heap.size + 1) W19 _) => ⟨chg_cell CK PXL.out PDN.out.1 K0.out, chg_cell CK PXL.out PDN.out.1 K1.out, chg_cell CK PNL.out PDN.out.2.1 K2.out, chg_cell CK PPL.out PDN.out.2.2 K3.out, chg_cell CK PPL.out PDN.out.2.2 K4.out, chg_cell CK PPL.out PDN.out.2.2 K5.out⟩) (by repeat (first | exact chg_bl HR.out | refine chg_drewN ?_ _ | refine chg_drew ?_ | refine chgB_alloc ?_ _ | refine chgB_set ?_ (by first | exact .inl rfl | exact .inr (Nat.le_refl _) | exact .inr hs_wx | exact .inr hs_wz)))
        clear hK K
        try simp only [Act.put, List.setIfInBounds_toArray, List.set_cons_zero, List.set_cons_succ]
        refine wpAnyH_take (i := 18) (oi := { dst := some 9, op := Op.assign (Operand.tmp 134), type := 33, pos := "law.go:165", after := #[{ on := 14, ground := Ground.data }, { on := 17, ground := Ground.chain }, { on := 0, ground := Ground.phase }, { on := 1, ground := Ground.phase }, { on := 2, ground := Ground.phase }, { on := 3, ground := Ground.phase }, { on := 4, ground := Ground.phase }, { on := 5, ground := Ground.phase }, { on := 6, ground := Ground.phase }, { on := 7, ground := Ground.phase }, { on := 8, ground := Ground.phase }, { on := 9, ground := Ground.phase }, { on := 10, ground := Ground.phase }, { on := 11, ground := Ground.phase }, { on := 12, ground := Ground.phase }, { on := 13, ground := Ground.phase }, { on := 14, ground := Ground.phase }, { on := 15, ground := Ground.phase }, { on := 16, ground := Ground.phase }, { on := 17, ground := Ground.phase }], guard := none }) (v := ?_) rfl (by kernel_rfl) (by kernel_rfl) (by kernel_rfl) (fun _ _ _ h => h) (Or.inl ⟨by rfl, ?_⟩) (by assumption) ?_
        rotate_left
        · intro w_ hSw
          (try dsimp only at hSw)
          go_simp
          first | done | with_reducible rfl
        try simp only [Act.put, List.setIfInBounds_toArray, List.set_cons_zero, List.set_cons_succ]
        refine wpAnyH_done (by kernel_rfl) ?_ _
        go_wp2_with fail
        go_meet
        exact ⟨wz.heap.size, Az1, Az2, kz1, kz2, rfl, rfl, hs_wz, Lib.hid (pz_new HR.out BD.out TZ.out PDL.out).1, Lib.hid (pz_new HR.out BD.out TZ.out PDL.out).2.1, Lib.hid (pz_new HR.out BD.out TZ.out PDL.out).2.2.1, Lib.hid (pz_new HR.out BD.out TZ.out PDL.out).2.2.2⟩
      · skip
        go_simp
        skip
        refine hK.out _ _ ?_ (fun hHeld => ?_)
        · exact (fun (CK : Chg (fun k => k = w6.heap.size + 1) W19 _) => ⟨chg_cell CK PXL.out PDN.out.1 K0.out, chg_cell CK PXL.out PDN.out.1 K1.out, chg_cell CK PNL.out PDN.out.2.1 K2.out, chg_cell CK PPL.out PDN.out.2.2 K3.out, chg_cell CK PPL.out PDN.out.2.2 K4.out, chg_cell CK PPL.out PDN.out.2.2 K5.out⟩) (by repeat (first | exact chg_bl HR.out | refine chg_drewN ?_ _ | refine chg_drew ?_ | refine chgB_alloc ?_ _ | refine chgB_set ?_ (by first | exact .inl rfl | exact .inr (Nat.le_refl _) | exact .inr hs_wx | exact .inr hs_wz)))
        clear hK K
        try simp only [Act.put, List.setIfInBounds_toArray, List.set_cons_zero, List.set_cons_succ]
        refine wpAnyH_ready (rs := [10]) (by kernel_rfl) (by simp) ?_
        refine AllReadyH.cons (o := { dst := some 131, op := Op.call { callee := Callee.value (Operand.func 13), args := #[Operand.tmp 122, Operand.tmp 124, Operand.tmp 126, Operand.tmp 128, Operand.tmp 130], argTypes := #[25, 22, 26, 9, 4] }, type := 34, pos := "law.go:165", after := #[{ on := 1, ground := Ground.data }, { on := 3, ground := Ground.data }, { on := 5, ground := Ground.data }, { on := 7, ground := Ground.data }, { on := 9, ground := Ground.data }, { on := 1, ground := Ground.chain }], guard := none }) rfl (fun K hK => ?_) (AllReadyH.nil)
        go_simp
        go_at_call 13
        refine (refPut_at _ _ _ _ _ _ _ _ _ s' l' ctx' a v g _ (GR.Own.rd (OwnS.d (OwnS.below (w := wx) Tx.out (by repeat (first | exact Below.refl _ _ | refine bl_drewN ?_ _ | refine bl_drew ?_ | refine bl_alloc ?_ _)))) bxd).2.2 (GR.Own.rd (OwnS.s (OwnS.below (w := wx) Tx.out (by repeat (first | exact Below.refl _ _ | refine bl_drewN ?_ _ | refine bl_drew ?_ | refine bl_alloc ?_ _)))) bxs).2.2 (GR.Rd.below RNd.out (by repeat (first | exact HR.out | refine bl_drewN ?_ _ | refine bl_drew ?_ | refine bl_alloc ?_ _))) rfl rfl rfl NS'.out NL'.out NC'.out).mono ?_
        rintro e wz ⟨v1, v2, rfl, ho, hb2⟩
        obtain ⟨Az1, nz1, kz1, rfl⟩ := own_slice ho.d jc1
        obtain ⟨Az2, nz2, kz2, rfl⟩ := own_slice ho.s jc2
        obtain rfl : nz1 = (putA s' l' ctx' a v g).length := own_n' ho.d
        obtain rfl : nz2 = (putL s' l' ctx' a v g).length := own_n' ho.s
        have T_ := Lib.hid (OwnS.below (OwnS.below (w := wx) Tx.out (by repeat (first | exact Below.refl _ _ | refine bl_drewN ?_ _ | refine bl_drew ?_ | refine bl_alloc ?_ _))) hb2)
        clear Tx
        have Tx := T_
        clear T_
        have BK := Lib.hid (blk_new (H := wx.heap.size) rfl hb2)
        have TZ := Lib.hid (OwnS.base (B' := W19.heap.size) ho (Below.size (w := W19) (by repeat (first | exact HR.out | refine bl_drewN ?_ _ | refine bl_drew ?_ | refine bl_alloc ?_ _))))
        clear ho
        have N_ := Lib.hid (bl_then (w := W19) (by repeat (first | exact HR.out | refine bl_drewN ?_ _ | refine bl_drew ?_ | refine bl_alloc ?_ _)) hb2)
        clear hb2 HR
        have HR := N_
        clear N_
        have hs_wz : W19.heap.size ≤ wz.heap.size := HR.out.size
        have BD := Lib.hid (BD0.out.below HR.out BD0.out.lt)
        have q0 := BD.out.cell 0
        have q1 := BD.out.cell 1
        have qf0 := BD.out.frozen 0
        have qf1 := BD.out.frozen 1
        have qlt := BD.out.lt
        have qn1 : w6.heap.size + 1 ≠ W19.heap.size := by omega
        have qn2 : W19.heap.size ≠ w6.heap.size + 1 := by omega
        have qn3 : w6.heap.size + 1 ≠ wx.heap.size := by omega
        have qn4 : wx.heap.size ≠ w6.heap.size + 1 := by omega
        have k0 := BK.out.cell 0
        have k1 := BK.out.cell 1
        have kf0 := BK.out.frozen 0
        have kf1 := BK.out.frozen 1
        refine hK.out _ _ ?_ (fun hHeld => ?_)
        · exact (fun (CK : Chg (fun k => k = w6.heap.size + 1) W19 _) => ⟨chg_cell CK PXL.out PDN.out.1 K0.out, chg_cell CK PXL.out PDN.out.1 K1.out, chg_cell CK PNL.out PDN.out.2.1 K2.out, chg_cell CK PPL.out PDN.out.2.2 K3.out, chg_cell CK PPL.out PDN.out.2.2 K4.out, chg_cell CK PPL.out PDN.out.2.2 K5.out⟩) (by repeat (first | exact chg_bl HR.out | refine chg_drewN ?_ _ | refine chg_drew ?_ | refine chgB_alloc ?_ _ | refine chgB_set ?_ (by first | exact .inl rfl | exact .inr (Nat.le_refl _) | exact .inr hs_wx | exact .inr hs_wz)))
        clear hK K
        try simp only [Act.put, List.setIfInBounds_toArray, List.set_cons_zero, List.set_cons_succ]
        refine wpAnyH_take (i := 11) (oi := { dst := some 120, op := Op.move (Operand.tmp 131), type := 34, pos := "law.go:165", after := #[{ on := 10, ground := Ground.data }], guard := none }) (v := ?_) rfl (by kernel_rfl) (by kernel_rfl) (by kernel_rfl) (fun _ _ _ h => h) (Or.inl ⟨by rfl, ?_⟩) (by assumption) ?_
        rotate_left
        · intro w_ hSw
          (try dsimp only at hSw)
          go_simp
          first | done | with_reducible rfl
        try simp only [Act.put, List.setIfInBounds_toArray, List.set_cons_zero, List.set_cons_succ]
        refine wpAnyH_take (i := 12) (oi := { dst := some 132, op := Op.extract (Operand.tmp 120) 0, type := 25, pos := "law.go:165", after := #[{ on := 11, ground := Ground.data }], guard := none }) (v := ?_) rfl (by kernel_rfl) (by kernel_rfl) (by kernel_rfl) (fun _ _ _ h => h) (Or.inl ⟨by rfl, ?_⟩) (by assumption) ?_
        rotate_left
        · intro w_ hSw
          (try dsimp only at hSw)
          go_simp
          first | done | with_reducible rfl
        try simp only [Act.put, List.setIfInBounds_toArray, List.set_cons_zero, List.set_cons_succ]
        refine wpAnyH_take (i := 13) (oi := { dst := some 133, op := Op.extract (Operand.tmp 120) 1, type := 32, pos := "law.go:165", after := #[{ on := 11, ground := Ground.data }, { on := 16, ground := Ground.gcOnly Departure.lateStores }], guard := none }) (v := ?_) rfl (by kernel_rfl) (by kernel_rfl) (by kernel_rfl) (fun _ _ _ h => h) (Or.inl ⟨by rfl, ?_⟩) (by assumption) ?_
        rotate_left
        · intro w_ hSw
          (try dsimp only at hSw)
          go_simp
          first | done | with_reducible rfl
        try simp only [Act.put, List.setIfInBounds_toArray, List.set_cons_zero, List.set_cons_succ]
        refine wpAnyH_take (i := 14) (oi := { dst := some 134, op := Op.extract (Operand.tmp 120) 2, type := 33, pos := "law.go:165", after := #[{ on := 11, ground := Ground.data }, { on := 17, ground := Ground.gcOnly Departure.lateStores }], guard := none }) (v := ?_) rfl (by kernel_rfl) (by kernel_rfl) (by kernel_rfl) (fun _ _ _ h => h) (Or.inl ⟨by rfl, ?_⟩) (by assumption) ?_
        rotate_left
        · intro w_ hSw
          (try dsimp only at hSw)
          go_simp
          first | done | with_reducible rfl
        try simp only [Act.put, List.setIfInBounds_toArray, List.set_cons_zero, List.set_cons_succ]
        refine wpAnyH_ready (rs := [16]) (by kernel_rfl) (by simp) ?_
        refine AllReadyH.cons (o := { dst := none, op := Op.store 25 (Operand.tmp 17) (Operand.tmp 132), type := 0, pos := "law.go:165", after := #[{ on := 15, ground := Ground.data }, { on := 12, ground := Ground.data }, { on := 10, ground := Ground.chain }, { on := 0, ground := Ground.phase }, { on := 1, ground := Ground.phase }, { on := 2, ground := Ground.phase }, { on := 3, ground := Ground.phase }, { on := 4, ground := Ground.phase }, { on := 5, ground := Ground.phase }, { on := 6, ground := Ground.phase }, { on := 7, ground := Ground.phase }, { on := 8, ground := Ground.phase }, { on := 9, ground := Ground.phase }, { on := 10, ground := Ground.phase }, { on := 11, ground := Ground.phase }, { on := 12, ground := Ground.phase }, { on := 13, ground := Ground.textOnly Departure.lateStores }, { on := 14, ground := Ground.textOnly Departure.lateStores }, { on := 15, ground := Ground.phase }], guard := none }) rfl (fun K hK => ?_) (AllReadyH.nil)
        go_simp
        skip
        refine hK.out _ _ ?_ (fun hHeld => ?_)
        · exact (fun (CK : Chg (fun k => k = w6.heap.size + 1) W19 _) => ⟨chg_cell CK PXL.out PDN.out.1 K0.out, chg_cell CK PXL.out PDN.out.1 K1.out, chg_cell CK PNL.out PDN.out.2.1 K2.out, chg_cell CK PPL.out PDN.out.2.2 K3.out, chg_cell CK PPL.out PDN.out.2.2 K4.out, chg_cell CK PPL.out PDN.out.2.2 K5.out⟩) (by repeat (first | exact chg_bl HR.out | refine chg_drewN ?_ _ | refine chg_drew ?_ | refine chgB_alloc ?_ _ | refine chgB_set ?_ (by first | exact .inl rfl | exact .inr (Nat.le_refl _) | exact .inr hs_wx | exact .inr hs_wz)))
        clear hK K
        try simp only [Act.put, List.setIfInBounds_toArray, List.set_cons_zero, List.set_cons_succ]
        refine wpAnyH_ready (rs := [17]) (by kernel_rfl) (by simp) ?_
        refine AllReadyH.cons (o := { dst := none, op := Op.store 32 (Operand.tmp 8) (Operand.tmp 133), type := 0, pos := "law.go:165", after := #[{ on := 13, ground := Ground.data }, { on := 16, ground := Ground.chain }, { on := 0, ground := Ground.phase }, { on := 1, ground := Ground.phase }, { on := 2, ground := Ground.phase }, { on := 3, ground := Ground.phase }, { on := 4, ground := Ground.phase }, { on := 5, ground := Ground.phase }, { on := 6, ground := Ground.phase }, { on := 7, ground := Ground.phase }, { on := 8, ground := Ground.phase }, { on := 9, ground := Ground.phase }, { on := 10, ground := Ground.phase }, { on := 11, ground := Ground.phase }, { on := 12, ground := Ground.phase }, { on := 13, ground := Ground.phase }, { on := 14, ground := Ground.textOnly Departure.lateStores }, { on := 15, ground := Ground.phase }, { on := 16, ground := Ground.phase }], guard := none }) rfl (fun K hK => ?_) (AllReadyH.nil)
        go_simp
        skip
        refine hK.out _ _ ?_ (fun hHeld => ?_)
        · exact (fun (CK : Chg (fun k => k = w6.heap.size + 1) W19 _) => ⟨chg_cell CK PXL.out PDN.out.1 K0.out, chg_cell CK PXL.out PDN.out.1 K1.out, chg_cell CK PNL.out PDN.out.2.1 K2.out, chg_cell CK PPL.out PDN.out.2.2 K3.out, chg_cell CK PPL.out PDN.out.2.2 K4.out, chg_cell CK PPL.out PDN.out.2.2 K5.out⟩) (by repeat (first | exact chg_bl HR.out | refine chg_drewN ?_ _ | refine chg_drew ?_ | refine chgB_alloc ?_ _ | refine chgB_set ?_ (by first | exact .inl rfl | exact .inr (Nat.le_refl _) | exact .inr hs_wx | exact .inr hs_wz)))
        clear hK K
        try simp only [Act.put, List.setIfInBounds_toArray, List.set_cons_zero, List.set_cons_succ]
        refine wpAnyH_take (i := 18) (oi := { dst := some 9, op := Op.assign (Operand.tmp 134), type := 33, pos := "law.go:165", after := #[{ on := 14, ground := Ground.data }, { on := 17, ground := Ground.chain }, { on := 0, ground := Ground.phase }, { on := 1, ground := Ground.phase }, { on := 2, ground := Ground.phase }, { on := 3, ground := Ground.phase }, { on := 4, ground := Ground.phase }, { on := 5, ground := Ground.phase }, { on := 6, ground := Ground.phase }, { on := 7, ground := Ground.phase }, { on := 8, ground := Ground.phase }, { on := 9, ground := Ground.phase }, { on := 10, ground := Ground.phase }, { on := 11, ground := Ground.phase }, { on := 12, ground := Ground.phase }, { on := 13, ground := Ground.phase }, { on := 14, ground := Ground.phase }, { on := 15, ground := Ground.phase }, { on := 16, ground := Ground.phase }, { on := 17, ground := Ground.phase }], guard := none }) (v := ?_) rfl (by kernel_rfl) (by kernel_rfl) (by kernel_rfl) (fun _ _ _ h => h) (Or.inl ⟨by rfl, ?_⟩) (by assumption) ?_
        rotate_left
        · intro w_ hSw
          (try dsimp only at hSw)
          go_simp
          first | done | with_reducible rfl
        try simp only [Act.put, List.setIfInBounds_toArray, List.set_cons_zero, List.set_cons_succ]
        refine wpAnyH_done (by kernel_rfl) ?_ _
        go_wp2_with fail
        go_meet
        exact ⟨wx.heap.size, Az1, Az2, kz1, kz2, rfl, rfl, hs_wx, Lib.hid (pz_cap HR.out BK.out BD.out TZ.out hs_wx PDL.out).1, Lib.hid (pz_cap HR.out BK.out BD.out TZ.out hs_wx PDL.out).2.1, Lib.hid (pz_cap HR.out BK.out BD.out TZ.out hs_wx PDL.out).2.2.1, Lib.hid (pz_cap HR.out BK.out BD.out TZ.out hs_wx PDL.out).2.2.2⟩
    · skip
      go_simp
      skip
      refine hK.out _ _ ?_ (fun hHeld => ?_)
      · exact (fun (CK : Chg (fun k => k = w6.heap.size + 1) W19 _) => ⟨chg_cell CK PXL.out PDN.out.1 K0.out, chg_cell CK PXL.out PDN.out.1 K1.out, chg_cell CK PNL.out PDN.out.2.1 K2.out, chg_cell CK PPL.out PDN.out.2.2 K3.out, chg_cell CK PPL.out PDN.out.2.2 K4.out, chg_cell CK PPL.out PDN.out.2.2 K5.out⟩) (by repeat (first | exact chg_bl HR.out | refine chg_drewN ?_ _ | refine chg_drew ?_ | refine chgB_alloc ?_ _ | refine chgB_set ?_ (by first | exact .inl rfl | exact .inr (Nat.le_refl _) | exact .inr hs_wx | exact .inr hs_wz)))
      clear hK K
      try simp only [Act.put, List.setIfInBounds_toArray, List.set_cons_zero, List.set_cons_succ]
      refine wpAnyH_ready (rs := [1]) (by kernel_rfl) (by simp) ?_
      refine AllReadyH.cons (o := { dst := some 122, op := Op.call { callee := Callee.value (Operand.func 18), args := #[Operand.tmp 121], argTypes := #[25] }, type := 25, pos := "law.go:165", after := #[{ on := 0, ground := Ground.data }], guard := none }) rfl (fun K hK => ?_) (AllReadyH.nil)
      go_simp
      go_at_call 18
      refine (twin_at _ _ _ _ _ _ s' l' _ (GR.Rd.below RXd.out (by repeat (first | exact HR.out | refine bl_drewN ?_ _ | refine bl_drew ?_ | refine bl_alloc ?_ _))) (GR.Rd.below RXs.out (by repeat (first | exact HR.out | refine bl_drewN ?_ _ | refine bl_drew ?_ | refine bl_alloc ?_ _))) EL.out.symm EL2.out.symm).mono ?_
      rintro e wx ⟨v1, v2, rfl, ho, hb2⟩
      obtain ⟨Ax1, nx1, kx1, rfl⟩ := own_slice ho.d bxd
      obtain ⟨Ax2, nx2, kx2, rfl⟩ := own_slice ho.s bxs
      obtain rfl : nx1 = s'.length := own_n' ho.d
      obtain rfl : nx2 = l'.length := own_n' ho.s
      have BK := Lib.hid (blk_newD (H := W19.heap.size) rfl hb2)
      have Tx := Lib.hid (OwnS.base (B' := W19.heap.size) ho (Below.size (w := W19) (by repeat (first | exact HR.out | refine bl_drewN ?_ _ | refine bl_drew ?_ | refine bl_alloc ?_ _))))
      clear ho
      have N_ := Lib.hid (bl_then (w := W19) (by repeat (first | exact HR.out | refine bl_drewN ?_ _ | refine bl_drew ?_ | refine bl_alloc ?_ _)) hb2)
      clear hb2 HR
      have HR := N_
      clear N_
      have hs_wx : W19.heap.size ≤ wx.heap.size := HR.out.size
      refine hK.out _ _ ?_ (fun hHeld => ?_)
      · exact (fun (CK : Chg (fun k => k = w6.heap.size + 1) W19 _) => ⟨chg_cell CK PXL.out PDN.out.1 K0.out, chg_cell CK PXL.out PDN.out.1 K1.out, chg_cell CK PNL.out PDN.out.2.1 K2.out, chg_cell CK PPL.out PDN.out.2.2 K3.out, chg_cell CK PPL.out PDN.out.2.2 K4.out, chg_cell CK PPL.out PDN.out.2.2 K5.out⟩) (by repeat (first | exact chg_bl HR.out | refine chg_drewN ?_ _ | refine chg_drew ?_ | refine chgB_alloc ?_ _ | refine chgB_set ?_ (by first | exact .inl rfl | exact .inr (Nat.le_refl _) | exact .inr hs_wx | exact .inr hs_wz)))
      clear hK K
      try simp only [Act.put, List.setIfInBounds_toArray, List.set_cons_zero, List.set_cons_succ]
      refine wpAnyH_ready (rs := [10]) (by kernel_rfl) (by simp) ?_
      refine AllReadyH.cons (o := { dst := some 131, op := Op.call { callee := Callee.value (Operand.func 13), args := #[Operand.tmp 122, Operand.tmp 124, Operand.tmp 126, Operand.tmp 128, Operand.tmp 130], argTypes := #[25, 22, 26, 9, 4] }, type := 34, pos := "law.go:165", after := #[{ on := 1, ground := Ground.data }, { on := 3, ground := Ground.data }, { on := 5, ground := Ground.data }, { on := 7, ground := Ground.data }, { on := 9, ground := Ground.data }, { on := 1, ground := Ground.chain }], guard := none }) rfl (fun K hK => ?_) (AllReadyH.nil)
      go_simp
      go_at_call 13
      refine (refPut_at _ _ _ _ _ _ _ _ _ s' l' ctx' a v g _ (GR.Own.rd (OwnS.d (OwnS.below (w := wx) Tx.out (by repeat (first | exact Below.refl _ _ | refine bl_drewN ?_ _ | refine bl_drew ?_ | refine bl_alloc ?_ _)))) bxd).2.2 (GR.Own.rd (OwnS.s (OwnS.below (w := wx) Tx.out (by repeat (first | exact Below.refl _ _ | refine bl_drewN ?_ _ | refine bl_drew ?_ | refine bl_alloc ?_ _)))) bxs).2.2 (GR.Rd.below RNd.out (by repeat (first | exact HR.out | refine bl_drewN ?_ _ | refine bl_drew ?_ | refine bl_alloc ?_ _))) rfl rfl rfl NS'.out NL'.out NC'.out).mono ?_
      rintro e wz ⟨v1, v2, rfl, ho, hb2⟩
      obtain ⟨Az1, nz1, kz1, rfl⟩ := own_slice ho.d jc1
      obtain ⟨Az2, nz2, kz2, rfl⟩ := own_slice ho.s jc2
      obtain rfl : nz1 = (putA s' l' ctx' a v g).length := own_n' ho.d
      obtain rfl : nz2 = (putL s' l' ctx' a v g).length := own_n' ho.s
      have T_ := Lib.hid (OwnS.below (OwnS.below (w := wx) Tx.out (by repeat (first | exact Below.refl _ _ | refine bl_drewN ?_ _ | refine bl_drew ?_ | refine bl_alloc ?_ _))) hb2)
      clear Tx
      have Tx := T_
      clear T_
      have BK_ := Lib.hid (GR.Blk.below BK.out hb2 BK.out.lt)
      clear BK
      have BK := BK_
      clear BK_
      have TZ := Lib.hid (OwnS.base (B' := W19.heap.size) ho (Below.size (w := W19) (by repeat (first | exact HR.out | refine bl_drewN ?_ _ | refine bl_drew ?_ | refine bl_alloc ?_ _))))
      clear ho
      have N_ := Lib.hid (bl_then (w := W19) (by repeat (first | exact HR.out | refine bl_drewN ?_ _ | refine bl_drew ?_ | refine bl_alloc ?_ _)) hb2)
      clear hb2 HR
      have HR := N_
      clear N_
      have hs_wz : W19.heap.size ≤ wz.heap.size := HR.out.size
      have BD := Lib.hid (BD0.out.below HR.out BD0.out.lt)
      have q0 := BD.out.cell 0
      have q1 := BD.out.cell 1
      have qf0 := BD.out.frozen 0
      have qf1 := BD.out.frozen 1
      have qlt := BD.out.lt
      have qn1 : w6.heap.size + 1 ≠ W19.heap.size := by omega
      have qn2 : W19.heap.size ≠ w6.heap.size + 1 := by omega
      have qn3 : w6.heap.size + 1 ≠ wx.heap.size := by omega
      have qn4 : wx.heap.size ≠ w6.heap.size + 1 := by omega
      have k0 := BK.out.cell 0
      have k1 := BK.out.cell 1
      have kf0 := BK.out.frozen 0
      have kf1 := BK.out.frozen 1
      refine hK.out _ _ ?_ (fun hHeld => ?_)
      · exact (fun (CK : Chg (fun k => k = w6.heap.size + 1) W19 _) => ⟨chg_cell CK PXL.out PDN.out.1 K0.out, chg_cell CK PXL.out PDN.out.1 K1.out, chg_cell CK PNL.out PDN.out.2.1 K2.out, chg_cell CK PPL.out PDN.out.2.2 K3.out, chg_cell CK PPL.out PDN.out.2.2 K4.out, chg_cell CK PPL.out PDN.out.2.2 K5.out⟩) (by repeat (first | exact chg_bl HR.out | refine chg_drewN ?_ _ | refine chg_drew ?_ | refine chgB_alloc ?_ _ | refine chgB_set ?_ (by first | exact .inl rfl | exact .inr (Nat.le_refl _) | exact .inr hs_wx | exact .inr hs_wz)))
      clear hK K
      try simp only [Act.put, List.setIfInBounds_toArray, List.set_cons_zero, List.set_cons_succ]
      refine wpAnyH_take (i := 11) (oi := { dst := some 120, op := Op.move (Operand.tmp 131), type := 34, pos := "law.go:165", after := #[{ on := 10, ground := Ground.data }], guard := none }) (v := ?_) rfl (by kernel_rfl) (by kernel_rfl) (by kernel_rfl) (fun _ _ _ h => h) (Or.inl ⟨by rfl, ?_⟩) (by assumption) ?_
      rotate_left
      · intro w_ hSw
        (try dsimp only at hSw)
        go_simp
        first | done | with_reducible rfl
      try simp only [Act.put, List.setIfInBounds_toArray, List.set_cons_zero, List.set_cons_succ]
      refine wpAnyH_take (i := 12) (oi := { dst := some 132, op := Op.extract (Operand.tmp 120) 0, type := 25, pos := "law.go:165", after := #[{ on := 11, ground := Ground.data }], guard := none }) (v := ?_) rfl (by kernel_rfl) (by kernel_rfl) (by kernel_rfl) (fun _ _ _ h => h) (Or.inl ⟨by rfl, ?_⟩) (by assumption) ?_
      rotate_left
      · intro w_ hSw
        (try dsimp only at hSw)
        go_simp
        first | done | with_reducible rfl
      try simp only [Act.put, List.setIfInBounds_toArray, List.set_cons_zero, List.set_cons_succ]
      refine wpAnyH_take (i := 13) (oi := { dst := some 133, op := Op.extract (Operand.tmp 120) 1, type := 32, pos := "law.go:165", after := #[{ on := 11, ground := Ground.data }, { on := 16, ground := Ground.gcOnly Departure.lateStores }], guard := none }) (v := ?_) rfl (by kernel_rfl) (by kernel_rfl) (by kernel_rfl) (fun _ _ _ h => h) (Or.inl ⟨by rfl, ?_⟩) (by assumption) ?_
      rotate_left
      · intro w_ hSw
        (try dsimp only at hSw)
        go_simp
        first | done | with_reducible rfl
      try simp only [Act.put, List.setIfInBounds_toArray, List.set_cons_zero, List.set_cons_succ]
      refine wpAnyH_take (i := 14) (oi := { dst := some 134, op := Op.extract (Operand.tmp 120) 2, type := 33, pos := "law.go:165", after := #[{ on := 11, ground := Ground.data }, { on := 17, ground := Ground.gcOnly Departure.lateStores }], guard := none }) (v := ?_) rfl (by kernel_rfl) (by kernel_rfl) (by kernel_rfl) (fun _ _ _ h => h) (Or.inl ⟨by rfl, ?_⟩) (by assumption) ?_
      rotate_left
      · intro w_ hSw
        (try dsimp only at hSw)
        go_simp
        first | done | with_reducible rfl
      try simp only [Act.put, List.setIfInBounds_toArray, List.set_cons_zero, List.set_cons_succ]
      refine wpAnyH_ready (rs := [16]) (by kernel_rfl) (by simp) ?_
      refine AllReadyH.cons (o := { dst := none, op := Op.store 25 (Operand.tmp 17) (Operand.tmp 132), type := 0, pos := "law.go:165", after := #[{ on := 15, ground := Ground.data }, { on := 12, ground := Ground.data }, { on := 10, ground := Ground.chain }, { on := 0, ground := Ground.phase }, { on := 1, ground := Ground.phase }, { on := 2, ground := Ground.phase }, { on := 3, ground := Ground.phase }, { on := 4, ground := Ground.phase }, { on := 5, ground := Ground.phase }, { on := 6, ground := Ground.phase }, { on := 7, ground := Ground.phase }, { on := 8, ground := Ground.phase }, { on := 9, ground := Ground.phase }, { on := 10, ground := Ground.phase }, { on := 11, ground := Ground.phase }, { on := 12, ground := Ground.phase }, { on := 13, ground := Ground.textOnly Departure.lateStores }, { on := 14, ground := Ground.textOnly Departure.lateStores }, { on := 15, ground := Ground.phase }], guard := none }) rfl (fun K hK => ?_) (AllReadyH.nil)
      go_simp
      skip
      refine hK.out _ _ ?_ (fun hHeld => ?_)
      · exact (fun (CK : Chg (fun k => k = w6.heap.size + 1) W19 _) => ⟨chg_cell CK PXL.out PDN.out.1 K0.out, chg_cell CK PXL.out PDN.out.1 K1.out, chg_cell CK PNL.out PDN.out.2.1 K2.out, chg_cell CK PPL.out PDN.out.2.2 K3.out, chg_cell CK PPL.out PDN.out.2.2 K4.out, chg_cell CK PPL.out PDN.out.2.2 K5.out⟩) (by repeat (first | exact chg_bl HR.out | refine chg_drewN ?_ _ | refine chg_drew ?_ | refine chgB_alloc ?_ _ | refine chgB_set ?_ (by first | exact .inl rfl | exact .inr (Nat.le_refl _) | exact .inr hs_wx | exact .inr hs_wz)))
      clear hK K
      try simp only [Act.put, List.setIfInBounds_toArray, List.set_cons_zero, List.set_cons_succ]
      refine wpAnyH_ready (rs := [17]) (by kernel_rfl) (by simp) ?_
      refine AllReadyH.cons (o := { dst := none, op := Op.store 32 (Operand.tmp 8) (Operand.tmp 133), type := 0, pos := "law.go:165", after := #[{ on := 13, ground := Ground.data }, { on := 16, ground := Ground.chain }, { on := 0, ground := Ground.phase }, { on := 1, ground := Ground.phase }, { on := 2, ground := Ground.phase }, { on := 3, ground := Ground.phase }, { on := 4, ground := Ground.phase }, { on := 5, ground := Ground.phase }, { on := 6, ground := Ground.phase }, { on := 7, ground := Ground.phase }, { on := 8, ground := Ground.phase }, { on := 9, ground := Ground.phase }, { on := 10, ground := Ground.phase }, { on := 11, ground := Ground.phase }, { on := 12, ground := Ground.phase }, { on := 13, ground := Ground.phase }, { on := 14, ground := Ground.textOnly Departure.lateStores }, { on := 15, ground := Ground.phase }, { on := 16, ground := Ground.phase }], guard := none }) rfl (fun K hK => ?_) (AllReadyH.nil)
      go_simp
      skip
      refine hK.out _ _ ?_ (fun hHeld => ?_)
      · exact (fun (CK : Chg (fun k => k = w6.heap.size + 1) W19 _) => ⟨chg_cell CK PXL.out PDN.out.1 K0.out, chg_cell CK PXL.out PDN.out.1 K1.out, chg_cell CK PNL.out PDN.out.2.1 K2.out, chg_cell CK PPL.out PDN.out.2.2 K3.out, chg_cell CK PPL.out PDN.out.2.2 K4.out, chg_cell CK PPL.out PDN.out.2.2 K5.out⟩) (by repeat (first | exact chg_bl HR.out | refine chg_drewN ?_ _ | refine chg_drew ?_ | refine chgB_alloc ?_ _ | refine chgB_set ?_ (by first | exact .inl rfl | exact .inr (Nat.le_refl _) | exact .inr hs_wx | exact .inr hs_wz)))
      clear hK K
      try simp only [Act.put, List.setIfInBounds_toArray, List.set_cons_zero, List.set_cons_succ]
      refine wpAnyH_take (i := 18) (oi := { dst := some 9, op := Op.assign (Operand.tmp 134), type := 33, pos := "law.go:165", after := #[{ on := 14, ground := Ground.data }, { on := 17, ground := Ground.chain }, { on := 0, ground := Ground.phase }, { on := 1, ground := Ground.phase }, { on := 2, ground := Ground.phase }, { on := 3, ground := Ground.phase }, { on := 4, ground := Ground.phase }, { on := 5, ground := Ground.phase }, { on := 6, ground := Ground.phase }, { on := 7, ground := Ground.phase }, { on := 8, ground := Ground.phase }, { on := 9, ground := Ground.phase }, { on := 10, ground := Ground.phase }, { on := 11, ground := Ground.phase }, { on := 12, ground := Ground.phase }, { on := 13, ground := Ground.phase }, { on := 14, ground := Ground.phase }, { on := 15, ground := Ground.phase }, { on := 16, ground := Ground.phase }, { on := 17, ground := Ground.phase }], guard := none }) (v := ?_) rfl (by kernel_rfl) (by kernel_rfl) (by kernel_rfl) (fun _ _ _ h => h) (Or.inl ⟨by rfl, ?_⟩) (by assumption) ?_
      rotate_left
      · intro w_ hSw
        (try dsimp only at hSw)
        go_simp
        first | done | with_reducible rfl
      try simp only [Act.put, List.setIfInBounds_toArray, List.set_cons_zero, List.set_cons_succ]
      refine wpAnyH_done (by kernel_rfl) ?_ _
      go_wp2_with fail
      go_meet
      exact ⟨W19.heap.size, Az1, Az2, kz1, kz2, rfl, rfl, (Nat.le_refl _), Lib.hid (pz_cap HR.out BK.out BD.out TZ.out (Nat.le_refl _) PDL.out).1, Lib.hid (pz_cap HR.out BK.out BD.out TZ.out (Nat.le_refl _) PDL.out).2.1, Lib.hid (pz_cap HR.out BK.out BD.out TZ.out (Nat.le_refl _) PDL.out).2.2.1, Lib.hid (pz_cap HR.out BK.out BD.out TZ.out (Nat.le_refl _) PDL.out).2.2.2⟩
  case rest =>
    obtain ⟨gz, Az1, Az2, kz1, kz2, rfl, rfl, hgz, BZ, OZ, BD, BC⟩ := hcut
    have s1 := BT2.out.size
    have s2 := Bp1d.out.lt
    have s3 := Bpwd.out.lt
    have s4 := PPLT.out
    have s5 := BC.out.size
    have s6 := L19.out.size
    have s8 := Lwd.out.1
    have s9 := Lwd.out.2
    have F50 := Lib.hid (HS.nil wc)
    have F51 := Lib.hid (HS.addB F50.out (g := w2.heap.size) (t := 25) (cs := #[.slice (some ⟨g1, 0, none⟩) s.length c1, .slice (some ⟨g2, 0, none⟩) l.length c3]) (blk_chg (F49.out.blk 9 rfl) BC.out (by show ¬ _ = _; omega)))
    clear F50
    have F52 := Lib.hid (HS.addB F51.out (g := w4.heap.size) (t := 25) (cs := #[.slice (some ⟨g3, 0, none⟩) ctx.length c4, .slice (some ⟨g4, 0, none⟩) 0 c5]) (blk_chg (F49.out.blk 8 rfl) BC.out (by show ¬ _ = _; omega)))
    clear F51
    have F53 := Lib.hid (HS.addB F52.out (g := w8.heap.size) (t := 25) (cs := #[.slice A3 (putA s l ctx a v g).length k3, .slice A4 (putL s l ctx a v g).length k4]) (blk_chg (F49.out.blk 7 rfl) BC.out (by show ¬ _ = _; omega)))
    clear F52
    have F54 := Lib.hid (HS.addB F53.out (g := w8.heap.size + 1) (t := 32) (cs := #[.int .u32 (putD s l ctx a v g).a, .int .u64 (putD s l ctx a v g).n]) (blk_chg (F49.out.blk 6 rfl) BC.out (by show ¬ _ = _; omega)))
    clear F53
    have F55 := Lib.hid (HS.addB F54.out (g := w.heap.size + 1) (t := 28) (cs := #[.slice C ctx.length c2, .int .u32 a, .string v, .bool g]) (blk_chg (F49.out.blk 4 rfl) BC.out (by show ¬ _ = _; omega)))
    clear F54
    have F56 := Lib.hid (HS.addB F55.out (g := gz) (t := 25) (cs := #[(.slice Az1 (putA s' l' ctx' a v g).length kz1), (.slice Az2 (putL s' l' ctx' a v g).length kz2)]) (BZ.out))
    clear F55
    have F57 := Lib.hid (HS.addB F56.out (g := w6.heap.size + 1) (t := 32) (cs := #[.int .u32 (putD s' l' ctx' a v g).a, .int .u64 (putD s' l' ctx' a v g).n]) (BD.out))
    clear F56
    have F58 := Lib.hid (F57.out.addO (⟨own_chg (F49.out.own 3 rfl).d BC.out (fun k hk hs => by have := RX2.out k (.inl hk); omega), own_chg (F49.out.own 3 rfl).s BC.out (fun k hk hs => by have := RX2.out k (.inr hk); omega)⟩))
    clear F57
    have F59 := Lib.hid (F58.out.addO (⟨own_chg (F49.out.own 2 rfl).d BC.out (fun k hk hs => by have := RY2.out k (.inl hk); omega), own_chg (F49.out.own 2 rfl).s BC.out (fun k hk hs => by have := RY2.out k (.inr hk); omega)⟩))
    clear F58
    have F60 := Lib.hid (F59.out.addO (OZ.out))
    clear F59
    have px_0 : wc.cell? ⟨w2.heap.size, 0, none⟩ = some (.slice (some ⟨g1, 0, none⟩) s.length c1) := (F60.out.blk 9 rfl).cell 0
    have px_1 : wc.cell? ⟨w2.heap.size, 1, none⟩ = some (.slice (some ⟨g2, 0, none⟩) l.length c3) := (F60.out.blk 9 rfl).cell 1
    have pc_0 : wc.cell? ⟨w4.heap.size, 0, none⟩ = some (.slice (some ⟨g3, 0, none⟩) ctx.length c4) := (F60.out.blk 8 rfl).cell 0
    have pc_1 : wc.cell? ⟨w4.heap.size, 1, none⟩ = some (.slice (some ⟨g4, 0, none⟩) 0 c5) := (F60.out.blk 8 rfl).cell 1
    have pp_0 : wc.cell? ⟨w.heap.size + 1, 0, none⟩ = some (.slice C ctx.length c2) := (F60.out.blk 5 rfl).cell 0
    have pp_1 : wc.cell? ⟨w.heap.size + 1, 1, none⟩ = some (.int .u32 a) := (F60.out.blk 5 rfl).cell 1
    have pp_2 : wc.cell? ⟨w.heap.size + 1, 2, none⟩ = some (.string v) := (F60.out.blk 5 rfl).cell 2
    have pp_3 : wc.cell? ⟨w.heap.size + 1, 3, none⟩ = some (.bool g) := (F60.out.blk 5 rfl).cell 3
    have EE2 := Lib.hid (show ((putE s' l' ctx' a v g) == (putE s' l' ctx' a v g)) = true by simp)
    have DD2 := Lib.hid (show dEq (putD s' l' ctx' a v g).a (putD s' l' ctx' a v g).n (putD s' l' ctx' a v g).a (putD s' l' ctx' a v g).n = true by simp [dEq])
    have CX := Lib.hid (show s.length ≤ c1 from (GR.Own.rd OX.out.d bxd).2.1)
    have CY := Lib.hid (show ctx.length ≤ c4 from (GR.Own.rd OY.out.d byd).2.1)
    go_wp2_with fail
    clear px_0 px_1 pc_0 pc_1 pp_0 pp_1 pp_2 pp_3
    refine (put_at _ _ _ _ _ _ _ _ _ s' l' ctx' a v g _ (GR.Own.rd ((F60.out.own 2 rfl).d) bxd).2.2 (GR.Own.rd ((F60.out.own 2 rfl).s) bxs).2.2 (GR.Own.rd ((F60.out.own 1 rfl).d) byd).2.2 EL.out.symm EL2.out.symm EL3.out.symm CX.out CY.out NS'.out NL'.out NC'.out).mono ?_
    rintro e w20 ⟨v1, v2, rfl, ho, hb⟩
    obtain ⟨A20, n20, k20, rfl⟩ := own_slice ho.d jc1
    obtain ⟨A21, n21, k21, rfl⟩ := own_slice ho.s jc2
    obtain rfl : n20 = (putA s' l' ctx' a v g).length := own_n' ho.d
    obtain rfl : n21 = (putL s' l' ctx' a v g).length := own_n' ho.s
    have s7 : wc.heap.size ≤ w20.heap.size := hb.size
    have F61 := Lib.hid (F60.out.below hb)
    clear F60
    have F62 := Lib.hid (F61.out.addO (ho))
    clear F61
    have BC2 := Lib.hid hb
    clear ho hb
    have p1_0 : w20.cell? ⟨w8.heap.size, 0, none⟩ = some (.slice A3 (putA s l ctx a v g).length k3) := (F62.out.blk 8 rfl).cell 0
    have p1_1 : w20.cell? ⟨w8.heap.size, 1, none⟩ = some (.slice A4 (putL s l ctx a v g).length k4) := (F62.out.blk 8 rfl).cell 1
    have p1d_0 : w20.cell? ⟨w8.heap.size + 1, 0, none⟩ = some (.int .u32 (putD s l ctx a v g).a) := (F62.out.blk 7 rfl).cell 0
    have p1d_1 : w20.cell? ⟨w8.heap.size + 1, 1, none⟩ = some (.int .u64 (putD s l ctx a v g).n) := (F62.out.blk 7 rfl).cell 1
    have pz_0 : w20.cell? ⟨gz, 0, none⟩ = some ((.slice Az1 (putA s' l' ctx' a v g).length kz1)) := (F62.out.blk 5 rfl).cell 0
    have pz_1 : w20.cell? ⟨gz, 1, none⟩ = some ((.slice Az2 (putL s' l' ctx' a v g).length kz2)) := (F62.out.blk 5 rfl).cell 1
    have pd_0 : w20.cell? ⟨w6.heap.size + 1, 0, none⟩ = some (.int .u32 (putD s' l' ctx' a v g).a) := (F62.out.blk 4 rfl).cell 0
    have pd_1 : w20.cell? ⟨w6.heap.size + 1, 1, none⟩ = some (.int .u64 (putD s' l' ctx' a v g).n) := (F62.out.blk 4 rfl).cell 1
    have p1_f0 := (F62.out.blk 8 rfl).frozen 0
    have p1_f1 := (F62.out.blk 8 rfl).frozen 1
    have p1d_f0 := (F62.out.blk 7 rfl).frozen 0
    have p1d_f1 := (F62.out.blk 7 rfl).frozen 1
    have z1 : w8.heap.size ≠ gz := by omega
    have z2 : gz ≠ w8.heap.size := by omega
    have z3 : w8.heap.size + 1 ≠ gz := by omega
    have z4 : gz ≠ w8.heap.size + 1 := by omega
    have z5 : w8.heap.size + 1 ≠ w6.heap.size + 1 := by omega
    have z6 : w6.heap.size + 1 ≠ w8.heap.size + 1 := by omega
    have z7 : w8.heap.size ≠ w6.heap.size + 1 := by omega
    have z8 : w6.heap.size + 1 ≠ w8.heap.size := by omega
    have z9 : w6.heap.size ≠ w8.heap.size := by omega
    have z10 : w8.heap.size ≠ w6.heap.size := by omega
    have ee2 := EE2.out
    have dd2 := DD2.out
    go_wp2_with fail
    have CF : ∀ (u0 u1 u2 u3 : Value) (B' : Nat) (p q : Value) (A : List Dot) (L : List Sib), OwnS w20 B' p q A L → W19.heap.size ≤ B' → OwnS ((((w20.setCell ⟨w8.heap.size, 0, none⟩ u0).setCell ⟨w8.heap.size, 1, none⟩ u1).setCell ⟨w8.heap.size + 1, 0, none⟩ u2).setCell ⟨w8.heap.size + 1, 1, none⟩ u3) B' p q A L := fun u0 u1 u2 u3 B' p q A L hO hB => by
      have C : Chg (fun k => k = w8.heap.size ∨ k = w8.heap.size + 1) w20 ((((w20.setCell ⟨w8.heap.size, 0, none⟩ u0).setCell ⟨w8.heap.size, 1, none⟩ u1).setCell ⟨w8.heap.size + 1, 0, none⟩ u2).setCell ⟨w8.heap.size + 1, 1, none⟩ u3) := chg_put (chg_put (chg_put (chg_put (Chg.refl _ _) (.inl rfl)) (.inl rfl)) (.inr rfl)) (.inr rfl)
      exact ⟨own_chg hO.d C (fun k hk h => by have := (hO.d.lt k hk).1; omega), own_chg hO.s C (fun k hk h => by have := (hO.s.lt k hk).1; omega)⟩
    have n21 := CF (.slice A20 (putA s' l' ctx' a v g).length k20) (.slice A21 (putL s' l' ctx' a v g).length k21) (.int .u32 (putD s' l' ctx' a v g).a) (.int .u64 (putD s' l' ctx' a v g).n) _ _ _ _ _ (F62.out.own 0 rfl) s5
    have z21 := CF (.slice A20 (putA s' l' ctx' a v g).length k20) (.slice A21 (putL s' l' ctx' a v g).length k21) (.int .u32 (putD s' l' ctx' a v g).a) (.int .u64 (putD s' l' ctx' a v g).n) _ _ _ _ _ (F62.out.own 1 rfl) (Nat.le_refl _)
    refine (same_self _ _ _ _ _ _ _ _ _ _ _ _ (putA s' l' ctx' a v g) (putL s' l' ctx' a v g) _ (GR.Own.rd n21.d jc1).2.2 (GR.Own.rd n21.s jc2).2.2 (GR.Own.rd z21.d jc1).2.2 (GR.Own.rd z21.s jc2).2.2 rfl rfl rfl rfl).mono ?_
    rintro e w22 ⟨rfl, hb⟩
    go_wp2
    go_ret
    have B17 : Below W1.heap.size W1 wc := BW.out.trans ((BT2.out.mono h17).trans (BC.out.below (by omega) (fun k hk => by omega)))
    exact ⟨rfl, bl_then LW.out ((((((B17.trans (BC2.out.mono (by omega))).setCell (p := ⟨w8.heap.size, 0, none⟩) (show W1.heap.size ≤ w8.heap.size by omega) _).setCell (p := ⟨w8.heap.size, 1, none⟩) (show W1.heap.size ≤ w8.heap.size by omega) _).setCell (p := ⟨w8.heap.size + 1, 0, none⟩) (show W1.heap.size ≤ w8.heap.size + 1 by omega) _).setCell (p := ⟨w8.heap.size + 1, 1, none⟩) (show W1.heap.size ≤ w8.heap.size + 1 by omega) _).trans (hb.mono (by simp [World.setCell]; omega)))⟩
end Go.Proofs.Ytlmnmlehnigfdaa
