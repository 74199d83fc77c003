/- DERIVED. ObjectAsks: the walk of the law. -/
import Derived.Test.YtljfigikkajlnaaVObAsksA
import Derived.Test.YtljfigikkajlnaaVm12
import Derived.Test.YtljfigikkajlnaaVObTurn
namespace Go.Proofs.Ytljfigikkajlnaa
open Go.RowKit Go.Lib Go.Proofs.YtljfigikkajlnaaW.PrintWords
set_option linter.unusedVariables false
set_option linter.unusedSimpArgs false
attribute [local go_sem high] eqD eqCell
theorem turn_str {a : List Dot} {l : List Sib} (h : StR a l) : StR (a.map tD) (l.map tS) := by
  refine ⟨fun d hd => ?_, fun x hx => ?_⟩
  · obtain ⟨y, hy, rfl⟩ := List.mem_map.1 hd
    have := h.1 y hy
    refine ⟨?_, this.2.1, this.2.2⟩
    show 0 ≤ IntKind.u64.wrap (y.n + 1)
    rw [IntKind.wrap_u64]; omega
  · obtain ⟨y, hy, rfl⟩ := List.mem_map.1 hx
    have := h.2 y hy
    unfold tS
    split
    · exact this
    · exact this
theorem owns_far {w w' : World} {B a1 a2 b1 b2 n1 n2 m1 m2 c1 c2 d1 d2 : Nat} {p : List Dot} {q : List Sib} (h : OwnS w B (.slice (some ⟨a1, 0, none⟩) n1 c1) (.slice (some ⟨a2, 0, none⟩) n2 c2) p q) (hc : Chg (rows2 (.slice (some ⟨b1, 0, none⟩) m1 d1) (.slice (some ⟨b2, 0, none⟩) m2 d2)) w w')
    (h1 : a1 ≠ b1) (h2 : a1 ≠ b2) (h3 : a2 ≠ b1) (h4 : a2 ≠ b2) : OwnS w' B (.slice (some ⟨a1, 0, none⟩) n1 c1) (.slice (some ⟨a2, 0, none⟩) n2 c2) p q :=
  ⟨own_chg h.d hc (fun k hk e => by
    have hk' : some a1 = some k := hk
    injection hk' with hk'
    rcases e with e | e
    · have e' : some b1 = some k := e
      injection e' with e'; omega
    · have e' : some b2 = some k := e
      injection e' with e'; omega), own_chg h.s hc (fun k hk e => by
    have hk' : some a2 = some k := hk
    injection hk' with hk'
    rcases e with e | e
    · have e' : some b1 = some k := e
      injection e' with e'; omega
    · have e' : some b2 = some k := e
      injection e' with e'; omega)⟩
theorem blk_far2 {w w' : World} {g B : Nat} {cs : Array Value} {u v : Value} {p : List Dot} {q : List Sib} (bg : GR.Blk w g 27 cs) (h : OwnS w B u v p q) (hc : Chg (rows2 u v) w w') : GR.Blk w' g 27 cs :=
  blk_chg bg hc fun hr => by
    rcases hr with hr | hr
    · exact GR.own_blk_ne h.d bg (by decide) hr
    · exact GR.own_blk_ne h.s bg (by decide) hr
theorem rows2_ge {k b1 b2 m1 m2 d1 d2 B : Nat} (h : rows2 (.slice (some ⟨b1, 0, none⟩) m1 d1) (.slice (some ⟨b2, 0, none⟩) m2 d2) k) (h1 : B ≤ b1) (h2 : B ≤ b2) : B ≤ k := by
  rcases h with e | e
  · have e' : some b1 = some k := e
    injection e' with e'; omega
  · have e' : some b2 = some k := e
    injection e' with e'; omega
theorem asks_at {w : World} (ka kb : ByteArray) (A1 B1 C1 D1 A2 B2 C2 D2 : Option Addr) (c1 c2 c3 c4 c5 c6 c7 c8 : Nat) (a b : List Dot) (l m : List Sib) (wd : Int) {n1 n2 n3 n4 : Nat} (ha1 : GR.Rd dotK w A1 a) (hl1 : GR.Rd sibK w B1 l) (hb1 : GR.Rd dotK w C1 b) (hm1 : GR.Rd sibK w D1 m) (ha2 : GR.Rd dotK w A2 a) (hl2 : GR.Rd sibK w B2 l) (hb2 : GR.Rd dotK w C2 b) (hm2 : GR.Rd sibK w D2 m)
    (h1 : n1 = a.length) (h2 : n2 = l.length) (h3 : n3 = b.length) (h4 : n4 = m.length) (hra : StR a l) (hrb : StR b m) :
    Calls Try.prog 23 #[.agg #[.string ka, .slice A1 n1 c1, .slice B1 n2 c2], .agg #[.string kb, .slice C1 n3 c3, .slice D1 n4 c4], .agg #[.string ka, .slice A2 n1 c5, .slice B2 n2 c6], .agg #[.string kb, .slice C2 n3 c7, .slice D2 n4 c8], .int .i64 wd] w fun e w' => e = .returned (.bool true) ∧ Below w.heap.size w w' := by
  subst h1 h2 h3 h4
  exact asks_any ka kb A1 B1 C1 D1 A2 B2 C2 D2 c1 c2 c3 c4 c5 c6 c7 c8 a b l m wd w ha1 hl1 hb1 hm1 ha2 hl2 hb2 hm2 hra hrb
set_option maxRecDepth 100000 in
set_option maxHeartbeats 25600000 in
theorem askL_walk (ka kb : ByteArray) (A B C D : Option Addr) (c1 c2 c3 c4 : Nat) (a b : List Dot) (l m : List Sib) (wd : Int) (w : World) (ha : GR.Rd dotK w A a) (hl : GR.Rd sibK w B l) (hb : GR.Rd dotK w C b) (hm : GR.Rd sibK w D m)
    (sa : a.length * 16 ≤ 140737488351232) (sl : l.length * 40 ≤ 140737488351232) (sb : b.length * 16 ≤ 140737488351232) (sm : m.length * 40 ≤ 140737488351232) (hr1 : StR a l) (hr2 : StR b m) (hv1 : ∀ x ∈ l, x.v.size ≤ 140737488351232) (hv2 : ∀ x ∈ m, x.v.size ≤ 140737488351232) :
    Calls Try.prog 5 #[.agg #[.string ka, .slice A a.length c1, .slice B l.length c2], .agg #[.string kb, .slice C b.length c3, .slice D m.length c4], .int .i64 wd] w fun e w' => e = .returned (.bool true) ∧ Below w.heap.size w w' := by
  have HV1 := Lib.hid hv1
  have HV2 := Lib.hid hv2
  have za : (a ++ [mkD]).length * 16 ≤ 140737488355328 := by rw [List.length_append]; show (a.length + 1) * 16 ≤ _; omega
  have zl : (l ++ [mkS]).length * 40 ≤ 140737488355328 := by rw [List.length_append]; show (l.length + 1) * 40 ≤ _; omega
  have zb : (b ++ [mkD]).length * 16 ≤ 140737488355328 := by rw [List.length_append]; show (b.length + 1) * 16 ≤ _; omega
  have zm : (m ++ [mkS]).length * 40 ≤ 140737488355328 := by rw [List.length_append]; show (m.length + 1) * 40 ≤ _; omega
  have TRA := Lib.hid (turn_str hr1)
  have TRB := Lib.hid (turn_str hr2)
  obtain ⟨ta, hta⟩ : ∃ y, a.map tD = y := ⟨_, rfl⟩
  obtain ⟨tl, htl⟩ : ∃ y, l.map tS = y := ⟨_, rfl⟩
  obtain ⟨tb, htb⟩ : ∃ y, b.map tD = y := ⟨_, rfl⟩
  obtain ⟨tm, htm⟩ : ∃ y, m.map tS = y := ⟨_, rfl⟩
  have la : ta.length = a.length := by rw [← hta, List.length_map]
  have ll : tl.length = l.length := by rw [← htl, List.length_map]
  have lb : tb.length = b.length := by rw [← htb, List.length_map]
  have lm : tm.length = m.length := by rw [← htm, List.length_map]
  rw [hta, htl] at TRA
  rw [htb, htm] at TRB
  have LA := Lib.hid la
  have LL0 := Lib.hid ll
  have LB := Lib.hid lb
  have LM := Lib.hid lm
  clear la ll lb lm
  have HA := Lib.hid ha
  have HL := Lib.hid hl
  have HB := Lib.hid hb
  have HM := Lib.hid hm
  have HR1 := Lib.hid hr1
  have HR2 := Lib.hid hr2
  have HTA := Lib.hid hta
  have HTL := Lib.hid htl
  have HTB := Lib.hid htb
  have HTM := Lib.hid htm
  clear ha hl hb hm hr1 hr2 hta htl htb htm
  go_enter Try.func5, Try.ntmps5
  go_wp2_with fail
  obtain ⟨Z1, hZ1⟩ : ∃ W : World, W = (w.alloc (.cells #[.string ka, .slice A a.length c1, .slice B l.length c2] 27)).alloc (.cells #[.string kb, .slice C b.length c3, .slice D m.length c4] 27) := ⟨_, rfl⟩
  rw [← hZ1]
  have LL : Hid (Below w.heap.size w Z1) := Lib.hid (by rw [hZ1]; exact (by repeat (first | exact Below.refl _ _ | refine bl_drewN ?_ _ | refine bl_drew ?_ | refine bl_alloc ?_ _)))
  have X_pa : Hid (GR.Blk Z1 (w.heap.size) 27 #[.string ka, .slice A a.length c1, .slice B l.length c2]) := Lib.hid (by rw [hZ1]; exact (GR.Blk.new _ _ _).alloc _)
  have X_pb : Hid (GR.Blk Z1 (w.heap.size + 1) 27 #[.string kb, .slice C b.length c3, .slice D m.length c4]) := Lib.hid (by rw [hZ1]; exact new_at _ _ _ (by simp))
  clear hZ1
  have mn1 : w.heap.size ≤ Z1.heap.size := LL.out.size
  have F1 := Lib.hid (HS.nil Z1)
  have F2 := Lib.hid (HS.addB F1.out (g := w.heap.size) (t := 27) (cs := #[.string ka, .slice A a.length c1, .slice B l.length c2]) (X_pa.out))
  clear F1
  have F3 := Lib.hid (HS.addB F2.out (g := w.heap.size + 1) (t := 27) (cs := #[.string kb, .slice C b.length c3, .slice D m.length c4]) (X_pb.out))
  clear F2
  clear X_pa X_pb
  have F4 := Lib.hid (F3.out.addR (HA.out.below LL.out))
  clear F3
  have F5 := Lib.hid (F4.out.addR (HL.out.below LL.out))
  clear F4
  have F6 := Lib.hid (F5.out.addR (HB.out.below LL.out))
  clear F5
  have F7 := Lib.hid (F6.out.addR (HM.out.below LL.out))
  clear F6
  have BB := LL
  clear LL
  have hzx : w.heap.size ≤ Z1.heap.size := BB.out.size
  refine (obTwin_any ka A B c1 c2 a l _ (F7.out.rd 3 rfl) (F7.out.rd 2 rfl) sa sl).mono ?_
  rintro e u2 ⟨g1x, h1x, g2x, h2x, rfl, ho, hb⟩
  have mn2 : Z1.heap.size ≤ u2.heap.size := Below.size hb
  have F8 := Lib.hid (F7.out.below hb)
  clear F7
  have F9 := Lib.hid (F8.out.addO (ho))
  clear F8
  replace BB := Lib.hid (bl_then BB.out hb)
  clear hb
  have q1x := (ho.d.lt g1x rfl)
  have q2x := (ho.s.lt g2x rfl)
  clear ho
  have pb_0 : u2.cell? ⟨w.heap.size + 1, 0, none⟩ = some (.string kb) := (F9.out.blk 5 rfl).cell 0
  have pb_1 : u2.cell? ⟨w.heap.size + 1, 1, none⟩ = some (.slice C b.length c3) := (F9.out.blk 5 rfl).cell 1
  have pb_2 : u2.cell? ⟨w.heap.size + 1, 2, none⟩ = some (.slice D m.length c4) := (F9.out.blk 5 rfl).cell 2
  have pb_lt : w.heap.size + 1 < u2.heap.size := (F9.out.blk 5 rfl).lt
  go_wp2_with fail
  clear pb_0 pb_1 pb_2 pb_lt
  obtain ⟨Z3, hZ3⟩ : ∃ W : World, W = u2.alloc (.cells #[.string ka, .slice (some ⟨g1x, 0, none⟩) a.length h1x, .slice (some ⟨g2x, 0, none⟩) l.length h2x] 27) := ⟨_, rfl⟩
  rw [← hZ3]
  have LL : Hid (Below u2.heap.size u2 Z3) := Lib.hid (by rw [hZ3]; exact (by repeat (first | exact Below.refl _ _ | refine bl_drewN ?_ _ | refine bl_drew ?_ | refine bl_alloc ?_ _)))
  have X_px : Hid (GR.Blk Z3 (u2.heap.size) 27 #[.string ka, .slice (some ⟨g1x, 0, none⟩) a.length h1x, .slice (some ⟨g2x, 0, none⟩) l.length h2x]) := Lib.hid (by rw [hZ3]; exact GR.Blk.new _ _ _)
  clear hZ3
  have mn3 : u2.heap.size ≤ Z3.heap.size := LL.out.size
  have F10 := Lib.hid (F9.out.below LL.out)
  clear F9
  have F11 := Lib.hid (HS.addB F10.out (g := u2.heap.size) (t := 27) (cs := #[.string ka, .slice (some ⟨g1x, 0, none⟩) a.length h1x, .slice (some ⟨g2x, 0, none⟩) l.length h2x]) (X_px.out))
  clear F10
  clear X_px
  replace BB := Lib.hid (bl_then BB.out LL.out)
  clear LL
  have hzy : w.heap.size ≤ Z3.heap.size := BB.out.size
  refine (obTwin_any kb C D c3 c4 b m _ (F11.out.rd 3 rfl) (F11.out.rd 2 rfl) sb sm).mono ?_
  rintro e u4 ⟨g1y, h1y, g2y, h2y, rfl, ho, hb⟩
  have mn4 : Z3.heap.size ≤ u4.heap.size := Below.size hb
  have F12 := Lib.hid (F11.out.below hb)
  clear F11
  have F13 := Lib.hid (F12.out.addO (ho))
  clear F12
  replace BB := Lib.hid (bl_then BB.out hb)
  clear hb
  have q1y := (ho.d.lt g1y rfl)
  have q2y := (ho.s.lt g2y rfl)
  clear ho
  have pa_0 : u4.cell? ⟨w.heap.size, 0, none⟩ = some (.string ka) := (F13.out.blk 8 rfl).cell 0
  have pa_1 : u4.cell? ⟨w.heap.size, 1, none⟩ = some (.slice A a.length c1) := (F13.out.blk 8 rfl).cell 1
  have pa_2 : u4.cell? ⟨w.heap.size, 2, none⟩ = some (.slice B l.length c2) := (F13.out.blk 8 rfl).cell 2
  have pb_0 : u4.cell? ⟨w.heap.size + 1, 0, none⟩ = some (.string kb) := (F13.out.blk 7 rfl).cell 0
  have pb_1 : u4.cell? ⟨w.heap.size + 1, 1, none⟩ = some (.slice C b.length c3) := (F13.out.blk 7 rfl).cell 1
  have pb_2 : u4.cell? ⟨w.heap.size + 1, 2, none⟩ = some (.slice D m.length c4) := (F13.out.blk 7 rfl).cell 2
  have px_0 : u4.cell? ⟨u2.heap.size, 0, none⟩ = some (.string ka) := (F13.out.blk 1 rfl).cell 0
  have px_1 : u4.cell? ⟨u2.heap.size, 1, none⟩ = some (.slice (some ⟨g1x, 0, none⟩) a.length h1x) := (F13.out.blk 1 rfl).cell 1
  have px_2 : u4.cell? ⟨u2.heap.size, 2, none⟩ = some (.slice (some ⟨g2x, 0, none⟩) l.length h2x) := (F13.out.blk 1 rfl).cell 2
  have pa_lt : w.heap.size < u4.heap.size := (F13.out.blk 8 rfl).lt
  have pb_lt : w.heap.size + 1 < u4.heap.size := (F13.out.blk 7 rfl).lt
  have px_lt : u2.heap.size < u4.heap.size := (F13.out.blk 1 rfl).lt
  go_wp2_with fail
  clear pa_0 pa_1 pa_2 pa_lt pb_0 pb_1 pb_2 pb_lt px_0 px_1 px_2 px_lt
  obtain ⟨Z5, hZ5⟩ : ∃ W : World, W = u4.alloc (.cells #[.string kb, .slice (some ⟨g1y, 0, none⟩) b.length h1y, .slice (some ⟨g2y, 0, none⟩) m.length h2y] 27) := ⟨_, rfl⟩
  rw [← hZ5]
  have LL : Hid (Below u4.heap.size u4 Z5) := Lib.hid (by rw [hZ5]; exact (by repeat (first | exact Below.refl _ _ | refine bl_drewN ?_ _ | refine bl_drew ?_ | refine bl_alloc ?_ _)))
  have X_py : Hid (GR.Blk Z5 (u4.heap.size) 27 #[.string kb, .slice (some ⟨g1y, 0, none⟩) b.length h1y, .slice (some ⟨g2y, 0, none⟩) m.length h2y]) := Lib.hid (by rw [hZ5]; exact GR.Blk.new _ _ _)
  clear hZ5
  have mn5 : u4.heap.size ≤ Z5.heap.size := LL.out.size
  have F14 := Lib.hid (F13.out.below LL.out)
  clear F13
  have F15 := Lib.hid (HS.addB F14.out (g := u4.heap.size) (t := 27) (cs := #[.string kb, .slice (some ⟨g1y, 0, none⟩) b.length h1y, .slice (some ⟨g2y, 0, none⟩) m.length h2y]) (X_py.out))
  clear F14
  clear X_py
  replace BB := Lib.hid (bl_then BB.out LL.out)
  clear LL
  refine (asks_any ka kb _ _ _ _ A B C D h1x h2x h1y h2y c1 c2 c3 c4 a b l m wd _ (rd_take (F15.out.own 3 rfl).d (by show a.length * 16 ≤ _; omega)) (rd_take (F15.out.own 3 rfl).s (by show l.length * 40 ≤ _; omega)) (rd_take (F15.out.own 1 rfl).d (by show b.length * 16 ≤ _; omega)) (rd_take (F15.out.own 1 rfl).s (by show m.length * 40 ≤ _; omega)) (F15.out.rd 7 rfl) (F15.out.rd 6 rfl) (F15.out.rd 5 rfl) (F15.out.rd 4 rfl) HR1.out HR2.out).mono ?_
  rintro e u6 ⟨rfl, hb⟩
  have mn6 : Z5.heap.size ≤ u6.heap.size := Below.size hb
  have F16 := Lib.hid (F15.out.below hb)
  clear F15
  replace BB := Lib.hid (bl_then BB.out hb)
  clear hb
  have px_0 : u6.cell? ⟨u2.heap.size, 0, none⟩ = some (.string ka) := (F16.out.blk 2 rfl).cell 0
  have px_1 : u6.cell? ⟨u2.heap.size, 1, none⟩ = some (.slice (some ⟨g1x, 0, none⟩) a.length h1x) := (F16.out.blk 2 rfl).cell 1
  have px_2 : u6.cell? ⟨u2.heap.size, 2, none⟩ = some (.slice (some ⟨g2x, 0, none⟩) l.length h2x) := (F16.out.blk 2 rfl).cell 2
  have pa_0 : u6.cell? ⟨w.heap.size, 0, none⟩ = some (.string ka) := (F16.out.blk 9 rfl).cell 0
  have pa_1 : u6.cell? ⟨w.heap.size, 1, none⟩ = some (.slice A a.length c1) := (F16.out.blk 9 rfl).cell 1
  have pa_2 : u6.cell? ⟨w.heap.size, 2, none⟩ = some (.slice B l.length c2) := (F16.out.blk 9 rfl).cell 2
  have px_lt : u2.heap.size < u6.heap.size := (F16.out.blk 2 rfl).lt
  have pa_lt : w.heap.size < u6.heap.size := (F16.out.blk 9 rfl).lt
  go_wp2_with fail
  clear px_0 px_1 px_2 px_lt pa_0 pa_1 pa_2 pa_lt
  refine (kept_any _ ka g1x g2x h1x h2x A B c1 c2 a l _ (F16.out.own 3 rfl) (F16.out.rd 7 rfl) (F16.out.rd 6 rfl) sa sl).mono ?_
  rintro e u7 ⟨rfl, hb⟩
  have mn7 : u6.heap.size ≤ u7.heap.size := Below.size hb
  have F17 := Lib.hid (F16.out.below hb)
  clear F16
  replace BB := Lib.hid (bl_then BB.out hb)
  clear hb
  have py_0 : u7.cell? ⟨u4.heap.size, 0, none⟩ = some (.string kb) := (F17.out.blk 0 rfl).cell 0
  have py_1 : u7.cell? ⟨u4.heap.size, 1, none⟩ = some (.slice (some ⟨g1y, 0, none⟩) b.length h1y) := (F17.out.blk 0 rfl).cell 1
  have py_2 : u7.cell? ⟨u4.heap.size, 2, none⟩ = some (.slice (some ⟨g2y, 0, none⟩) m.length h2y) := (F17.out.blk 0 rfl).cell 2
  have pb_0 : u7.cell? ⟨w.heap.size + 1, 0, none⟩ = some (.string kb) := (F17.out.blk 8 rfl).cell 0
  have pb_1 : u7.cell? ⟨w.heap.size + 1, 1, none⟩ = some (.slice C b.length c3) := (F17.out.blk 8 rfl).cell 1
  have pb_2 : u7.cell? ⟨w.heap.size + 1, 2, none⟩ = some (.slice D m.length c4) := (F17.out.blk 8 rfl).cell 2
  have py_lt : u4.heap.size < u7.heap.size := (F17.out.blk 0 rfl).lt
  have pb_lt : w.heap.size + 1 < u7.heap.size := (F17.out.blk 8 rfl).lt
  go_wp2_with fail
  clear py_0 py_1 py_2 py_lt pb_0 pb_1 pb_2 pb_lt
  refine (kept_any _ kb g1y g2y h1y h2y C D c3 c4 b m _ (F17.out.own 1 rfl) (F17.out.rd 5 rfl) (F17.out.rd 4 rfl) sb sm).mono ?_
  rintro e u8 ⟨rfl, hb⟩
  have mn8 : u7.heap.size ≤ u8.heap.size := Below.size hb
  have F18 := Lib.hid (F17.out.below hb)
  clear F17
  replace BB := Lib.hid (bl_then BB.out hb)
  clear hb
  have pa_0 : u8.cell? ⟨w.heap.size, 0, none⟩ = some (.string ka) := (F18.out.blk 9 rfl).cell 0
  have pa_1 : u8.cell? ⟨w.heap.size, 1, none⟩ = some (.slice A a.length c1) := (F18.out.blk 9 rfl).cell 1
  have pa_2 : u8.cell? ⟨w.heap.size, 2, none⟩ = some (.slice B l.length c2) := (F18.out.blk 9 rfl).cell 2
  have pa_lt : w.heap.size < u8.heap.size := (F18.out.blk 9 rfl).lt
  go_wp2_with fail
  clear pa_0 pa_1 pa_2 pa_lt
  have hzc : w.heap.size ≤ u8.heap.size := BB.out.size
  refine (obTwin_any ka A B c1 c2 a l _ (F18.out.rd 7 rfl) (F18.out.rd 6 rfl) sa sl).mono ?_
  rintro e u9 ⟨g1c, h1c, g2c, h2c, rfl, ho, hb⟩
  have mn9 : u8.heap.size ≤ u9.heap.size := Below.size hb
  have F19 := Lib.hid (F18.out.below hb)
  clear F18
  have F20 := Lib.hid (F19.out.addO (ho))
  clear F19
  replace BB := Lib.hid (bl_then BB.out hb)
  clear hb
  have q1c := (ho.d.lt g1c rfl)
  have q2c := (ho.s.lt g2c rfl)
  clear ho
  have pb_0 : u9.cell? ⟨w.heap.size + 1, 0, none⟩ = some (.string kb) := (F20.out.blk 9 rfl).cell 0
  have pb_1 : u9.cell? ⟨w.heap.size + 1, 1, none⟩ = some (.slice C b.length c3) := (F20.out.blk 9 rfl).cell 1
  have pb_2 : u9.cell? ⟨w.heap.size + 1, 2, none⟩ = some (.slice D m.length c4) := (F20.out.blk 9 rfl).cell 2
  have pb_lt : w.heap.size + 1 < u9.heap.size := (F20.out.blk 9 rfl).lt
  go_wp2_with fail
  clear pb_0 pb_1 pb_2 pb_lt
  obtain ⟨Z10, hZ10⟩ : ∃ W : World, W = u9.alloc (.cells #[.string ka, .slice (some ⟨g1c, 0, none⟩) a.length h1c, .slice (some ⟨g2c, 0, none⟩) l.length h2c] 27) := ⟨_, rfl⟩
  rw [← hZ10]
  have LL : Hid (Below u9.heap.size u9 Z10) := Lib.hid (by rw [hZ10]; exact (by repeat (first | exact Below.refl _ _ | refine bl_drewN ?_ _ | refine bl_drew ?_ | refine bl_alloc ?_ _)))
  have X_pc : Hid (GR.Blk Z10 (u9.heap.size) 27 #[.string ka, .slice (some ⟨g1c, 0, none⟩) a.length h1c, .slice (some ⟨g2c, 0, none⟩) l.length h2c]) := Lib.hid (by rw [hZ10]; exact GR.Blk.new _ _ _)
  clear hZ10
  have mn10 : u9.heap.size ≤ Z10.heap.size := LL.out.size
  have F21 := Lib.hid (F20.out.below LL.out)
  clear F20
  have F22 := Lib.hid (HS.addB F21.out (g := u9.heap.size) (t := 27) (cs := #[.string ka, .slice (some ⟨g1c, 0, none⟩) a.length h1c, .slice (some ⟨g2c, 0, none⟩) l.length h2c]) (X_pc.out))
  clear F21
  clear X_pc
  replace BB := Lib.hid (bl_then BB.out LL.out)
  clear LL
  have hzd : w.heap.size ≤ Z10.heap.size := BB.out.size
  refine (obTwin_any kb C D c3 c4 b m _ (F22.out.rd 7 rfl) (F22.out.rd 6 rfl) sb sm).mono ?_
  rintro e u11 ⟨g1d, h1d, g2d, h2d, rfl, ho, hb⟩
  have mn11 : Z10.heap.size ≤ u11.heap.size := Below.size hb
  have F23 := Lib.hid (F22.out.below hb)
  clear F22
  have F24 := Lib.hid (F23.out.addO (ho))
  clear F23
  replace BB := Lib.hid (bl_then BB.out hb)
  clear hb
  have q1d := (ho.d.lt g1d rfl)
  have q2d := (ho.s.lt g2d rfl)
  clear ho
  have pc_0 : u11.cell? ⟨u9.heap.size, 0, none⟩ = some (.string ka) := (F24.out.blk 1 rfl).cell 0
  have pc_1 : u11.cell? ⟨u9.heap.size, 1, none⟩ = some (.slice (some ⟨g1c, 0, none⟩) a.length h1c) := (F24.out.blk 1 rfl).cell 1
  have pc_2 : u11.cell? ⟨u9.heap.size, 2, none⟩ = some (.slice (some ⟨g2c, 0, none⟩) l.length h2c) := (F24.out.blk 1 rfl).cell 2
  have pc_lt : u9.heap.size < u11.heap.size := (F24.out.blk 1 rfl).lt
  go_wp2_with fail
  clear pc_0 pc_1 pc_2 pc_lt
  obtain ⟨Z12, hZ12⟩ : ∃ W : World, W = u11.alloc (.cells #[.string kb, .slice (some ⟨g1d, 0, none⟩) b.length h1d, .slice (some ⟨g2d, 0, none⟩) m.length h2d] 27) := ⟨_, rfl⟩
  rw [← hZ12]
  have LL : Hid (Below u11.heap.size u11 Z12) := Lib.hid (by rw [hZ12]; exact (by repeat (first | exact Below.refl _ _ | refine bl_drewN ?_ _ | refine bl_drew ?_ | refine bl_alloc ?_ _)))
  have X_pd : Hid (GR.Blk Z12 (u11.heap.size) 27 #[.string kb, .slice (some ⟨g1d, 0, none⟩) b.length h1d, .slice (some ⟨g2d, 0, none⟩) m.length h2d]) := Lib.hid (by rw [hZ12]; exact GR.Blk.new _ _ _)
  clear hZ12
  have mn12 : u11.heap.size ≤ Z12.heap.size := LL.out.size
  have F25 := Lib.hid (F24.out.below LL.out)
  clear F24
  have F26 := Lib.hid (HS.addB F25.out (g := u11.heap.size) (t := 27) (cs := #[.string kb, .slice (some ⟨g1d, 0, none⟩) b.length h1d, .slice (some ⟨g2d, 0, none⟩) m.length h2d]) (X_pd.out))
  clear F25
  clear X_pd
  replace BB := Lib.hid (bl_then BB.out LL.out)
  clear LL
  refine (turned_any _ ka g1c g2c _ _ _ _ h1c h2c a _ l _ _ (F26.out.own 3 rfl) (by omega) (by omega) (fun x hx => Nat.le_trans (HV1.out x hx) (by omega))).mono ?_
  rintro e u13 ⟨rfl, hot, hch⟩
  rw [HTA.out, HTL.out] at hot
  have X_px := Lib.hid (blk_far2 (F26.out.blk 6 rfl) (F26.out.own 3 rfl) hch)
  have X_py := Lib.hid (blk_far2 (F26.out.blk 4 rfl) (F26.out.own 3 rfl) hch)
  have X_pc := Lib.hid (blk_far2 (F26.out.blk 2 rfl) (F26.out.own 3 rfl) hch)
  have X_pd := Lib.hid (blk_far2 (F26.out.blk 0 rfl) (F26.out.own 3 rfl) hch)
  have Y_x := Lib.hid (owns_far (F26.out.own 7 rfl) hch (by omega) (by omega) (by omega) (by omega))
  have Y_y := Lib.hid (owns_far (F26.out.own 5 rfl) hch (by omega) (by omega) (by omega) (by omega))
  have Y_d := Lib.hid (owns_far (F26.out.own 1 rfl) hch (by omega) (by omega) (by omega) (by omega))
  have BC := Lib.hid (hch.below BB.out.size (fun k hk => rows2_ge hk (by omega) (by omega)))
  replace BB := Lib.hid (BB.out.trans BC.out)
  clear BC
  have F27 := Lib.hid (HS.nil u13)
  have F28 := Lib.hid (HS.addB F27.out (g := u2.heap.size) (t := 27) (cs := #[.string ka, .slice (some ⟨g1x, 0, none⟩) a.length h1x, .slice (some ⟨g2x, 0, none⟩) l.length h2x]) (X_px.out))
  clear F27
  have F29 := Lib.hid (HS.addB F28.out (g := u4.heap.size) (t := 27) (cs := #[.string kb, .slice (some ⟨g1y, 0, none⟩) b.length h1y, .slice (some ⟨g2y, 0, none⟩) m.length h2y]) (X_py.out))
  clear F28
  have F30 := Lib.hid (HS.addB F29.out (g := u9.heap.size) (t := 27) (cs := #[.string ka, .slice (some ⟨g1c, 0, none⟩) a.length h1c, .slice (some ⟨g2c, 0, none⟩) l.length h2c]) (X_pc.out))
  clear F29
  have F31 := Lib.hid (HS.addB F30.out (g := u11.heap.size) (t := 27) (cs := #[.string kb, .slice (some ⟨g1d, 0, none⟩) b.length h1d, .slice (some ⟨g2d, 0, none⟩) m.length h2d]) (X_pd.out))
  clear F30
  have F32 := Lib.hid (F31.out.addO (Y_x.out))
  clear F31
  have F33 := Lib.hid (F32.out.addO (Y_y.out))
  clear F32
  have F34 := Lib.hid (F33.out.addO (Y_d.out))
  clear F33
  have F35 := Lib.hid (F34.out.addO (hot))
  clear F34
  clear hot hch F26 X_px X_py X_pc X_pd Y_x Y_y Y_d
  have pd_0 : u13.cell? ⟨u11.heap.size, 0, none⟩ = some (.string kb) := (F35.out.blk 4 rfl).cell 0
  have pd_1 : u13.cell? ⟨u11.heap.size, 1, none⟩ = some (.slice (some ⟨g1d, 0, none⟩) b.length h1d) := (F35.out.blk 4 rfl).cell 1
  have pd_2 : u13.cell? ⟨u11.heap.size, 2, none⟩ = some (.slice (some ⟨g2d, 0, none⟩) m.length h2d) := (F35.out.blk 4 rfl).cell 2
  have pd_lt : u11.heap.size < u13.heap.size := (F35.out.blk 4 rfl).lt
  go_wp2_with fail
  clear pd_0 pd_1 pd_2 pd_lt
  refine (turned_any _ kb g1d g2d _ _ _ _ h1d h2d b _ m _ _ (F35.out.own 1 rfl) (by omega) (by omega) (fun x hx => Nat.le_trans (HV2.out x hx) (by omega))).mono ?_
  rintro e u14 ⟨rfl, hot, hch⟩
  rw [HTB.out, HTM.out] at hot
  have X_px := Lib.hid (blk_far2 (F35.out.blk 7 rfl) (F35.out.own 1 rfl) hch)
  have X_py := Lib.hid (blk_far2 (F35.out.blk 6 rfl) (F35.out.own 1 rfl) hch)
  have X_pc := Lib.hid (blk_far2 (F35.out.blk 5 rfl) (F35.out.own 1 rfl) hch)
  have X_pd := Lib.hid (blk_far2 (F35.out.blk 4 rfl) (F35.out.own 1 rfl) hch)
  have Y_x := Lib.hid (owns_far (F35.out.own 3 rfl) hch (by omega) (by omega) (by omega) (by omega))
  have Y_y := Lib.hid (owns_far (F35.out.own 2 rfl) hch (by omega) (by omega) (by omega) (by omega))
  have Y_c := Lib.hid (owns_far (F35.out.own 0 rfl) hch (by omega) (by omega) (by omega) (by omega))
  have BC := Lib.hid (hch.below BB.out.size (fun k hk => rows2_ge hk (by omega) (by omega)))
  replace BB := Lib.hid (BB.out.trans BC.out)
  clear BC
  have F36 := Lib.hid (HS.nil u14)
  have F37 := Lib.hid (HS.addB F36.out (g := u2.heap.size) (t := 27) (cs := #[.string ka, .slice (some ⟨g1x, 0, none⟩) a.length h1x, .slice (some ⟨g2x, 0, none⟩) l.length h2x]) (X_px.out))
  clear F36
  have F38 := Lib.hid (HS.addB F37.out (g := u4.heap.size) (t := 27) (cs := #[.string kb, .slice (some ⟨g1y, 0, none⟩) b.length h1y, .slice (some ⟨g2y, 0, none⟩) m.length h2y]) (X_py.out))
  clear F37
  have F39 := Lib.hid (HS.addB F38.out (g := u9.heap.size) (t := 27) (cs := #[.string ka, .slice (some ⟨g1c, 0, none⟩) a.length h1c, .slice (some ⟨g2c, 0, none⟩) l.length h2c]) (X_pc.out))
  clear F38
  have F40 := Lib.hid (HS.addB F39.out (g := u11.heap.size) (t := 27) (cs := #[.string kb, .slice (some ⟨g1d, 0, none⟩) b.length h1d, .slice (some ⟨g2d, 0, none⟩) m.length h2d]) (X_pd.out))
  clear F39
  have F41 := Lib.hid (F40.out.addO (Y_x.out))
  clear F40
  have F42 := Lib.hid (F41.out.addO (Y_y.out))
  clear F41
  have F43 := Lib.hid (F42.out.addO (Y_c.out))
  clear F42
  have F44 := Lib.hid (F43.out.addO (hot))
  clear F43
  clear hot hch F35 X_px X_py X_pc X_pd Y_x Y_y Y_c
  have px_0 : u14.cell? ⟨u2.heap.size, 0, none⟩ = some (.string ka) := (F44.out.blk 7 rfl).cell 0
  have px_1 : u14.cell? ⟨u2.heap.size, 1, none⟩ = some (.slice (some ⟨g1x, 0, none⟩) a.length h1x) := (F44.out.blk 7 rfl).cell 1
  have px_2 : u14.cell? ⟨u2.heap.size, 2, none⟩ = some (.slice (some ⟨g2x, 0, none⟩) l.length h2x) := (F44.out.blk 7 rfl).cell 2
  have px_lt : u2.heap.size < u14.heap.size := (F44.out.blk 7 rfl).lt
  go_wp2_with fail
  clear px_0 px_1 px_2 px_lt
  refine (turned_any _ ka g1x g2x _ _ _ _ h1x h2x a _ l _ _ (F44.out.own 3 rfl) (by omega) (by omega) (fun x hx => Nat.le_trans (HV1.out x hx) (by omega))).mono ?_
  rintro e u15 ⟨rfl, hot, hch⟩
  rw [HTA.out, HTL.out] at hot
  have X_px := Lib.hid (blk_far2 (F44.out.blk 7 rfl) (F44.out.own 3 rfl) hch)
  have X_py := Lib.hid (blk_far2 (F44.out.blk 6 rfl) (F44.out.own 3 rfl) hch)
  have X_pc := Lib.hid (blk_far2 (F44.out.blk 5 rfl) (F44.out.own 3 rfl) hch)
  have X_pd := Lib.hid (blk_far2 (F44.out.blk 4 rfl) (F44.out.own 3 rfl) hch)
  have Y_y := Lib.hid (owns_far (F44.out.own 2 rfl) hch (by omega) (by omega) (by omega) (by omega))
  have Y_c := Lib.hid (owns_far (F44.out.own 1 rfl) hch (by omega) (by omega) (by omega) (by omega))
  have Y_d := Lib.hid (owns_far (F44.out.own 0 rfl) hch (by omega) (by omega) (by omega) (by omega))
  have BC := Lib.hid (hch.below BB.out.size (fun k hk => rows2_ge hk (by omega) (by omega)))
  replace BB := Lib.hid (BB.out.trans BC.out)
  clear BC
  have F45 := Lib.hid (HS.nil u15)
  have F46 := Lib.hid (HS.addB F45.out (g := u2.heap.size) (t := 27) (cs := #[.string ka, .slice (some ⟨g1x, 0, none⟩) a.length h1x, .slice (some ⟨g2x, 0, none⟩) l.length h2x]) (X_px.out))
  clear F45
  have F47 := Lib.hid (HS.addB F46.out (g := u4.heap.size) (t := 27) (cs := #[.string kb, .slice (some ⟨g1y, 0, none⟩) b.length h1y, .slice (some ⟨g2y, 0, none⟩) m.length h2y]) (X_py.out))
  clear F46
  have F48 := Lib.hid (HS.addB F47.out (g := u9.heap.size) (t := 27) (cs := #[.string ka, .slice (some ⟨g1c, 0, none⟩) a.length h1c, .slice (some ⟨g2c, 0, none⟩) l.length h2c]) (X_pc.out))
  clear F47
  have F49 := Lib.hid (HS.addB F48.out (g := u11.heap.size) (t := 27) (cs := #[.string kb, .slice (some ⟨g1d, 0, none⟩) b.length h1d, .slice (some ⟨g2d, 0, none⟩) m.length h2d]) (X_pd.out))
  clear F48
  have F50 := Lib.hid (F49.out.addO (Y_y.out))
  clear F49
  have F51 := Lib.hid (F50.out.addO (Y_c.out))
  clear F50
  have F52 := Lib.hid (F51.out.addO (Y_d.out))
  clear F51
  have F53 := Lib.hid (F52.out.addO (hot))
  clear F52
  clear hot hch F44 X_px X_py X_pc X_pd Y_y Y_c Y_d
  have py_0 : u15.cell? ⟨u4.heap.size, 0, none⟩ = some (.string kb) := (F53.out.blk 6 rfl).cell 0
  have py_1 : u15.cell? ⟨u4.heap.size, 1, none⟩ = some (.slice (some ⟨g1y, 0, none⟩) b.length h1y) := (F53.out.blk 6 rfl).cell 1
  have py_2 : u15.cell? ⟨u4.heap.size, 2, none⟩ = some (.slice (some ⟨g2y, 0, none⟩) m.length h2y) := (F53.out.blk 6 rfl).cell 2
  have py_lt : u4.heap.size < u15.heap.size := (F53.out.blk 6 rfl).lt
  go_wp2_with fail
  clear py_0 py_1 py_2 py_lt
  refine (turned_any _ kb g1y g2y _ _ _ _ h1y h2y b _ m _ _ (F53.out.own 3 rfl) (by omega) (by omega) (fun x hx => Nat.le_trans (HV2.out x hx) (by omega))).mono ?_
  rintro e u16 ⟨rfl, hot, hch⟩
  rw [HTB.out, HTM.out] at hot
  have X_px := Lib.hid (blk_far2 (F53.out.blk 7 rfl) (F53.out.own 3 rfl) hch)
  have X_py := Lib.hid (blk_far2 (F53.out.blk 6 rfl) (F53.out.own 3 rfl) hch)
  have X_pc := Lib.hid (blk_far2 (F53.out.blk 5 rfl) (F53.out.own 3 rfl) hch)
  have X_pd := Lib.hid (blk_far2 (F53.out.blk 4 rfl) (F53.out.own 3 rfl) hch)
  have Y_x := Lib.hid (owns_far (F53.out.own 0 rfl) hch (by omega) (by omega) (by omega) (by omega))
  have Y_c := Lib.hid (owns_far (F53.out.own 2 rfl) hch (by omega) (by omega) (by omega) (by omega))
  have Y_d := Lib.hid (owns_far (F53.out.own 1 rfl) hch (by omega) (by omega) (by omega) (by omega))
  have BC := Lib.hid (hch.below BB.out.size (fun k hk => rows2_ge hk (by omega) (by omega)))
  replace BB := Lib.hid (BB.out.trans BC.out)
  clear BC
  have F54 := Lib.hid (HS.nil u16)
  have F55 := Lib.hid (HS.addB F54.out (g := u2.heap.size) (t := 27) (cs := #[.string ka, .slice (some ⟨g1x, 0, none⟩) a.length h1x, .slice (some ⟨g2x, 0, none⟩) l.length h2x]) (X_px.out))
  clear F54
  have F56 := Lib.hid (HS.addB F55.out (g := u4.heap.size) (t := 27) (cs := #[.string kb, .slice (some ⟨g1y, 0, none⟩) b.length h1y, .slice (some ⟨g2y, 0, none⟩) m.length h2y]) (X_py.out))
  clear F55
  have F57 := Lib.hid (HS.addB F56.out (g := u9.heap.size) (t := 27) (cs := #[.string ka, .slice (some ⟨g1c, 0, none⟩) a.length h1c, .slice (some ⟨g2c, 0, none⟩) l.length h2c]) (X_pc.out))
  clear F56
  have F58 := Lib.hid (HS.addB F57.out (g := u11.heap.size) (t := 27) (cs := #[.string kb, .slice (some ⟨g1d, 0, none⟩) b.length h1d, .slice (some ⟨g2d, 0, none⟩) m.length h2d]) (X_pd.out))
  clear F57
  have F59 := Lib.hid (F58.out.addO (Y_x.out))
  clear F58
  have F60 := Lib.hid (F59.out.addO (Y_c.out))
  clear F59
  have F61 := Lib.hid (F60.out.addO (Y_d.out))
  clear F60
  have F62 := Lib.hid (F61.out.addO (hot))
  clear F61
  clear hot hch F53 X_px X_py X_pc X_pd Y_x Y_c Y_d
  have px_0 : u16.cell? ⟨u2.heap.size, 0, none⟩ = some (.string ka) := (F62.out.blk 7 rfl).cell 0
  have px_1 : u16.cell? ⟨u2.heap.size, 1, none⟩ = some (.slice (some ⟨g1x, 0, none⟩) a.length h1x) := (F62.out.blk 7 rfl).cell 1
  have px_2 : u16.cell? ⟨u2.heap.size, 2, none⟩ = some (.slice (some ⟨g2x, 0, none⟩) l.length h2x) := (F62.out.blk 7 rfl).cell 2
  have py_0 : u16.cell? ⟨u4.heap.size, 0, none⟩ = some (.string kb) := (F62.out.blk 6 rfl).cell 0
  have py_1 : u16.cell? ⟨u4.heap.size, 1, none⟩ = some (.slice (some ⟨g1y, 0, none⟩) b.length h1y) := (F62.out.blk 6 rfl).cell 1
  have py_2 : u16.cell? ⟨u4.heap.size, 2, none⟩ = some (.slice (some ⟨g2y, 0, none⟩) m.length h2y) := (F62.out.blk 6 rfl).cell 2
  have pc_0 : u16.cell? ⟨u9.heap.size, 0, none⟩ = some (.string ka) := (F62.out.blk 5 rfl).cell 0
  have pc_1 : u16.cell? ⟨u9.heap.size, 1, none⟩ = some (.slice (some ⟨g1c, 0, none⟩) a.length h1c) := (F62.out.blk 5 rfl).cell 1
  have pc_2 : u16.cell? ⟨u9.heap.size, 2, none⟩ = some (.slice (some ⟨g2c, 0, none⟩) l.length h2c) := (F62.out.blk 5 rfl).cell 2
  have pd_0 : u16.cell? ⟨u11.heap.size, 0, none⟩ = some (.string kb) := (F62.out.blk 4 rfl).cell 0
  have pd_1 : u16.cell? ⟨u11.heap.size, 1, none⟩ = some (.slice (some ⟨g1d, 0, none⟩) b.length h1d) := (F62.out.blk 4 rfl).cell 1
  have pd_2 : u16.cell? ⟨u11.heap.size, 2, none⟩ = some (.slice (some ⟨g2d, 0, none⟩) m.length h2d) := (F62.out.blk 4 rfl).cell 2
  have px_lt : u2.heap.size < u16.heap.size := (F62.out.blk 7 rfl).lt
  have py_lt : u4.heap.size < u16.heap.size := (F62.out.blk 6 rfl).lt
  have pc_lt : u9.heap.size < u16.heap.size := (F62.out.blk 5 rfl).lt
  have pd_lt : u11.heap.size < u16.heap.size := (F62.out.blk 4 rfl).lt
  go_wp2_with fail
  clear px_0 px_1 px_2 px_lt py_0 py_1 py_2 py_lt pc_0 pc_1 pc_2 pc_lt pd_0 pd_1 pd_2 pd_lt
  have W9 := Lib.hid (asks_at (w := u16) ka kb _ _ _ _ _ _ _ _ h1x h2x h1y h2y h1c h2c h1d h2d ta tb tl tm wd (rd_take (F62.out.own 3 rfl).d (by rw [LA.out]; show a.length * 16 ≤ _; omega)) (rd_take (F62.out.own 3 rfl).s (by rw [LL0.out]; show l.length * 40 ≤ _; omega)) (rd_take (F62.out.own 0 rfl).d (by rw [LB.out]; show b.length * 16 ≤ _; omega)) (rd_take (F62.out.own 0 rfl).s (by rw [LM.out]; show m.length * 40 ≤ _; omega)) (rd_take (F62.out.own 2 rfl).d (by rw [LA.out]; show a.length * 16 ≤ _; omega)) (rd_take (F62.out.own 2 rfl).s (by rw [LL0.out]; show l.length * 40 ≤ _; omega)) (rd_take (F62.out.own 1 rfl).d (by rw [LB.out]; show b.length * 16 ≤ _; omega)) (rd_take (F62.out.own 1 rfl).s (by rw [LM.out]; show m.length * 40 ≤ _; omega)) LA.out.symm LL0.out.symm LB.out.symm LM.out.symm TRA.out TRB.out)
  refine (W9.out).mono ?_
  rintro e u17 ⟨rfl, hb⟩
  have mn13 : u16.heap.size ≤ u17.heap.size := Below.size hb
  have F63 := Lib.hid (F62.out.below hb)
  clear F62
  replace BB := Lib.hid (bl_then BB.out hb)
  clear hb
  have px_0 : u17.cell? ⟨u2.heap.size, 0, none⟩ = some (.string ka) := (F63.out.blk 7 rfl).cell 0
  have px_1 : u17.cell? ⟨u2.heap.size, 1, none⟩ = some (.slice (some ⟨g1x, 0, none⟩) a.length h1x) := (F63.out.blk 7 rfl).cell 1
  have px_2 : u17.cell? ⟨u2.heap.size, 2, none⟩ = some (.slice (some ⟨g2x, 0, none⟩) l.length h2x) := (F63.out.blk 7 rfl).cell 2
  have pc_0 : u17.cell? ⟨u9.heap.size, 0, none⟩ = some (.string ka) := (F63.out.blk 5 rfl).cell 0
  have pc_1 : u17.cell? ⟨u9.heap.size, 1, none⟩ = some (.slice (some ⟨g1c, 0, none⟩) a.length h1c) := (F63.out.blk 5 rfl).cell 1
  have pc_2 : u17.cell? ⟨u9.heap.size, 2, none⟩ = some (.slice (some ⟨g2c, 0, none⟩) l.length h2c) := (F63.out.blk 5 rfl).cell 2
  have px_lt : u2.heap.size < u17.heap.size := (F63.out.blk 7 rfl).lt
  have pc_lt : u9.heap.size < u17.heap.size := (F63.out.blk 5 rfl).lt
  go_wp2_with fail
  clear px_0 px_1 px_2 px_lt pc_0 pc_1 pc_2 pc_lt
  refine (lsameq true (rd_take (F63.out.own 3 rfl).d (by rw [LA.out]; show a.length * 16 ≤ _; omega)) (rd_take (F63.out.own 3 rfl).s (by rw [LL0.out]; show l.length * 40 ≤ _; omega)) (rd_take (F63.out.own 2 rfl).d (by rw [LA.out]; show a.length * 16 ≤ _; omega)) (rd_take (F63.out.own 2 rfl).s (by rw [LL0.out]; show l.length * 40 ≤ _; omega)) LA.out.symm LL0.out.symm LA.out.symm LL0.out.symm (okself _ _ _)).mono ?_
  rintro e u18 ⟨rfl, hb⟩
  have mn14 : u17.heap.size ≤ u18.heap.size := Below.size hb
  have F64 := Lib.hid (F63.out.below hb)
  clear F63
  replace BB := Lib.hid (bl_then BB.out hb)
  clear hb
  have py_0 : u18.cell? ⟨u4.heap.size, 0, none⟩ = some (.string kb) := (F64.out.blk 6 rfl).cell 0
  have py_1 : u18.cell? ⟨u4.heap.size, 1, none⟩ = some (.slice (some ⟨g1y, 0, none⟩) b.length h1y) := (F64.out.blk 6 rfl).cell 1
  have py_2 : u18.cell? ⟨u4.heap.size, 2, none⟩ = some (.slice (some ⟨g2y, 0, none⟩) m.length h2y) := (F64.out.blk 6 rfl).cell 2
  have pd_0 : u18.cell? ⟨u11.heap.size, 0, none⟩ = some (.string kb) := (F64.out.blk 4 rfl).cell 0
  have pd_1 : u18.cell? ⟨u11.heap.size, 1, none⟩ = some (.slice (some ⟨g1d, 0, none⟩) b.length h1d) := (F64.out.blk 4 rfl).cell 1
  have pd_2 : u18.cell? ⟨u11.heap.size, 2, none⟩ = some (.slice (some ⟨g2d, 0, none⟩) m.length h2d) := (F64.out.blk 4 rfl).cell 2
  have py_lt : u4.heap.size < u18.heap.size := (F64.out.blk 6 rfl).lt
  have pd_lt : u11.heap.size < u18.heap.size := (F64.out.blk 4 rfl).lt
  go_wp2_with fail
  clear py_0 py_1 py_2 py_lt pd_0 pd_1 pd_2 pd_lt
  refine (lsameq true (rd_take (F64.out.own 0 rfl).d (by rw [LB.out]; show b.length * 16 ≤ _; omega)) (rd_take (F64.out.own 0 rfl).s (by rw [LM.out]; show m.length * 40 ≤ _; omega)) (rd_take (F64.out.own 1 rfl).d (by rw [LB.out]; show b.length * 16 ≤ _; omega)) (rd_take (F64.out.own 1 rfl).s (by rw [LM.out]; show m.length * 40 ≤ _; omega)) LB.out.symm LM.out.symm LB.out.symm LM.out.symm (okself _ _ _)).mono ?_
  rintro e u19 ⟨rfl, hb⟩
  have mn15 : u18.heap.size ≤ u19.heap.size := Below.size hb
  have F65 := Lib.hid (F64.out.below hb)
  clear F64
  replace BB := Lib.hid (bl_then BB.out hb)
  clear hb
  go_wp2
  exact bodyPost_ret (v := .bool true) (by simp [results, Try.results5, go_sem]) rfl ⟨rfl, BB.out⟩
end Go.Proofs.Ytljfigikkajlnaa
