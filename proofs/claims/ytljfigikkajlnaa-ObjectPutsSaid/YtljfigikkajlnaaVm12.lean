/- DERIVED. Merging objects, plain: in any order. No program in sight. A script of steps that came in, opened. -/
import Derived.Test.YtljfigikkajlnaaVDvPutP
import Derived.Test.YtljfigikkajlnaaVObMrg
import Derived.Test.YtljfigikkajlnaaVObRowV
namespace Go.Proofs.Ytljfigikkajlnaa
open Go.RowKit Go.Lib
set_option linter.unusedVariables false
set_option linter.unusedSimpArgs false
section
variable {ka kb kc : ByteArray} {a b c : List Dot} {l m n : List Sib}
theorem omrg_zero (h : omrgE ka a l kb b m = 0) : chkE ka a l = 0 ∧ chkE kb b m = 0 ∧ ka = kb ∧ joinE a l b m = 0 ∧ chkE ka (joinA a l b m) (joinL a l b m) = 0 := by
  unfold omrgE at h
  by_cases h1 : chkE ka a l = 0
  · rw [if_pos h1] at h
    by_cases h2 : chkE kb b m = 0
    · rw [if_pos h2] at h
      by_cases h3 : ka = kb
      · rw [if_pos h3] at h
        by_cases h4 : joinE a l b m = 0
        · rw [if_pos h4] at h; exact ⟨h1, h2, h3, h4, h⟩
        · rw [if_neg h4] at h; exact absurd h h4
      · rw [if_neg h3] at h; exact absurd h (by decide)
    · rw [if_neg h2] at h; exact absurd h h2
  · rw [if_neg h1] at h; exact absurd h h1
end
theorem mrgO {ka kb key : ByteArray} {A B C D : Option Addr} {c1 c2 c3 c4 n1 n2 n3 n4 : Nat} {a b : List Dot} {l m : List Sib} {w : World} (J : List Dot) (M : List Sib) (x : Int) (ha : GR.Rd dotK w A a) (hl : GR.Rd sibK w B l) (hb : GR.Rd dotK w C b) (hm : GR.Rd sibK w D m) (h1 : n1 = a.length) (h2 : n2 = l.length) (h3 : n3 = b.length) (h4 : n4 = m.length) (hca : a.length ≤ c1) (hcb : b.length ≤ c3) (hr : StR a l) (hs : StR b m)
    (e0 : omrgK ka a l kb b m = key) (e1 : omrgA ka a l kb b m = J) (e2 : omrgL ka a l kb b m = M) (e3 : omrgE ka a l kb b m = x) :
    Calls Try.prog 12 #[.agg #[.string ka, .slice A n1 c1, .slice B n2 c2], .agg #[.string kb, .slice C n3 c3, .slice D n4 c4]] w
      fun e w' => ∃ (A B : Option Addr) (c d : Nat), e = .returned (.tuple #[.agg #[.string key, .slice A J.length c, .slice B M.length d], .int .i64 x]) ∧ OwnS w' w.heap.size (.slice A J.length c) (.slice B M.length d) J M ∧ Below w.heap.size w w' := by
  subst h1 h2 h3 h4 e0 e1 e2 e3
  have sm := join_small a l b m
  have sz : (omrgA ka a l kb b m).length ≤ 64 ∧ (omrgL ka a l kb b m).length ≤ 64 := by
    unfold omrgA omrgL
    split
    · exact sm
    · simp
  have sa : (omrgA ka a l kb b m).length * 16 ≤ 140737488355328 := by omega
  have sl : (omrgL ka a l kb b m).length * 40 ≤ 140737488355328 := by omega
  refine (omrg_any ka kb A B C D c1 c2 c3 c4 a b l m w ha hl hb hm hca hcb hr hs).mono ?_
  rintro e w' ⟨v1, v2, rfl, ho, hb⟩
  obtain ⟨A1, n1, k1, rfl⟩ := own_slice ho.d sa
  obtain ⟨A2, n2, k2, rfl⟩ := own_slice ho.s sl
  obtain rfl := own_n' ho.d
  obtain rfl := own_n' ho.s
  exact ⟨_, _, _, _, rfl, ho, hb⟩
theorem ob_put {w : World} {B g : Nat} {x y u v z p q r : Value} {a : List Dot} {l : List Sib} (h : OwnS w B x y a l) (bg : GR.Blk w g 27 #[p, q, r]) :
    OwnS (((w.setCell ⟨g, 0, none⟩ u).setCell ⟨g, 1, none⟩ v).setCell ⟨g, 2, none⟩ z) B x y a l ∧ GR.Blk (((w.setCell ⟨g, 0, none⟩ u).setCell ⟨g, 1, none⟩ v).setCell ⟨g, 2, none⟩ z) g 27 #[u, v, z] :=
  ⟨⟨own_farI (own_farI (own_farI h.d bg 0 u (by decide)) (bg.set_ 0 u) 1 v (by decide)) ((bg.set_ 0 u).set_ 1 v) 2 z (by decide), own_farI (own_farI (own_farI h.s bg 0 u (by decide)) (bg.set_ 0 u) 1 v (by decide)) ((bg.set_ 0 u).set_ 1 v) 2 z (by decide)⟩, ((bg.set_ 0 u).set_ 1 v).set_ 2 z⟩
theorem mrg_small (ka : ByteArray) (a : List Dot) (l : List Sib) (kb : ByteArray) (b : List Dot) (m : List Sib) : (omrgA ka a l kb b m).length ≤ 64 ∧ (omrgL ka a l kb b m).length ≤ 64 := by
  have sm := join_small a l b m
  unfold omrgA omrgL
  split
  · exact sm
  · simp
theorem mrg_str {ka kb : ByteArray} {a b : List Dot} {l m : List Sib} (hs : StR a l) (ht : StR b m) : StR (omrgA ka a l kb b m) (omrgL ka a l kb b m) := by
  unfold omrgA omrgL
  split
  · exact join_str hs ht
  · exact ⟨fun d hd => (by cases hd), fun d hd => (by cases hd)⟩
end Go.Proofs.Ytljfigikkajlnaa
namespace Go.Proofs.Ytljfigikkajlnaa
open Go.RowKit Go.ChangeShapes Go.WideShapes Go.Deep
set_option linter.unusedVariables false
set_option linter.unusedSimpArgs false
structure StepV where
  m : Bool
  E : Option Addr
  x : List Dot
  xc : Nat
  act : Int
  val : ByteArray
  gone : Bool
  key : ByteArray
  A : Option Addr
  a : List Dot
  ac : Nat
  B : Option Addr
  l : List Sib
  lc : Nat
def stepK : GR.Kind StepV where
  e := 31
  s := 8
  b := 128
  enc := fun s => [.bool s.m, .slice s.E s.x.length s.xc, .int .u32 s.act, .string s.val, .bool s.gone, .string s.key, .slice s.A s.a.length s.ac, .slice s.B s.l.length s.lc]
  len := fun _ => rfl
  one := fun x u hu => by
    simp only [List.mem_cons, List.not_mem_nil, or_false] at hu
    rcases hu with rfl | rfl | rfl | rfl | rfl | rfl | rfl | rfl <;> rfl
  hs := by decide
  hb := by decide
/-- What a step of a script holds. -/
def StepIn (w : World) (s : StepV) : Prop :=
  (GR.Rd dotK w s.E s.x ∧ s.x.length ≤ s.xc ∧ s.x.length * 16 ≤ 140737488351232 ∧ ∀ d ∈ s.x, DotR d) ∧ (0 ≤ s.act ∧ s.act ≤ 4294967295) ∧
  (GR.Rd dotK w s.A s.a ∧ GR.Rd sibK w s.B s.l ∧ s.a.length ≤ s.ac ∧ s.l.length ≤ s.lc ∧ s.a.length * 16 ≤ 140737488351232 ∧ s.l.length * 40 ≤ 140737488351232 ∧ (∀ d ∈ s.a, DotR d) ∧ ∀ d ∈ s.l, SibR d)
theorem step_at {w : World} {A : Option Addr} {l : List StepV} (h : GR.Rd stepK w A l) (i : Nat) (hi : i < l.length) : ∃ ad, A = some ad ∧ (ad.add (i * 8)).block < w.heap.size ∧ w.cell? (ad.add (i * 8)) = some (.bool l[i].m) ∧
    w.cell? ⟨(ad.add (i * 8)).block, (ad.add (i * 8)).off + 1, none⟩ = some (.slice l[i].E l[i].x.length l[i].xc) ∧ w.cell? ⟨(ad.add (i * 8)).block, (ad.add (i * 8)).off + 2, none⟩ = some (.int .u32 l[i].act) ∧
    w.cell? ⟨(ad.add (i * 8)).block, (ad.add (i * 8)).off + 3, none⟩ = some (.string l[i].val) ∧ w.cell? ⟨(ad.add (i * 8)).block, (ad.add (i * 8)).off + 4, none⟩ = some (.bool l[i].gone) ∧
    w.cell? ⟨(ad.add (i * 8)).block, (ad.add (i * 8)).off + 5, none⟩ = some (.string l[i].key) ∧ w.cell? ⟨(ad.add (i * 8)).block, (ad.add (i * 8)).off + 6, none⟩ = some (.slice l[i].A l[i].a.length l[i].ac) ∧
    w.cell? ⟨(ad.add (i * 8)).block, (ad.add (i * 8)).off + 7, none⟩ = some (.slice l[i].B l[i].l.length l[i].lc) := by
  obtain ⟨ad, e, hb, hc⟩ := h.at_ i hi
  refine ⟨ad, e, by rw [GR.block_of_add]; exact hb, hc 0 _ rfl, ?_, ?_, ?_, ?_, ?_, ?_, ?_⟩
  · rw [← add_off ad (i * 8) 1 (by omega)]; exact hc 1 _ rfl
  · rw [← add_off ad (i * 8) 2 (by omega)]; exact hc 2 _ rfl
  · rw [← add_off ad (i * 8) 3 (by omega)]; exact hc 3 _ rfl
  · rw [← add_off ad (i * 8) 4 (by omega)]; exact hc 4 _ rfl
  · rw [← add_off ad (i * 8) 5 (by omega)]; exact hc 5 _ rfl
  · rw [← add_off ad (i * 8) 6 (by omega)]; exact hc 6 _ rfl
  · rw [← add_off ad (i * 8) 7 (by omega)]; exact hc 7 _ rfl
section
variable {H : Type} {enc : TypeId × Value → H} {w : World} {base : Nat} {spare : Nat → Bool} {held : Bool}
set_option maxRecDepth 100000 in
theorem step_elem (n : Nat) (cs' : List Value) (z : DataW H × List MemPlace) (h : DataW.trod enc Try.prog w base spare held n 31 cs' = some z) (hz : ∀ k ∈ z.1.weights Try.prog 31, k ≤ reachBytes) : ∃ x : StepV, StepIn w x ∧ cs' = stepK.enc x := by
  obtain ⟨xs, n', hx0, hx1, hl, hxl, hf⟩ := DataW.trod_struct Try.underlying31 h
  rw [show Try.prog.cellsOf 31 = 8 by kernel_rfl] at hl
  match cs', hl with
  | [c0, c1, c2, c3, c4, c5, c6, c7], _ =>
    have h0 := hf 0 _ rfl
    have h1 := hf 1 _ rfl
    have h2 := hf 2 _ rfl
    have h3 := hf 3 _ rfl
    have h4 := hf 4 _ rfl
    have h5 := hf 5 _ rfl
    match xs, hxl with
    | [y0, y1, y2, y3, y4, y5], _ =>
      simp only [List.getElem?_cons_zero, List.getElem?_cons_succ] at h0 h1 h2 h3 h4 h5
      obtain ⟨s0, e0, _⟩ := DataW.trod_bool Try.underlying4 h0
      obtain ⟨s2, e2, _, w2⟩ := DataW.trod_int Try.underlying29 h2
      obtain ⟨s3, e3, _, _⟩ := DataW.trod_string Try.underlying9 h3
      obtain ⟨s4, e4, _⟩ := DataW.trod_bool Try.underlying4 h4
      change List.take (Try.prog.cellsOf 4) (List.drop 0 [c0, c1, c2, c3, c4, c5, c6, c7]) = _ at e0
      change List.take (Try.prog.cellsOf 29) (List.drop 2 [c0, c1, c2, c3, c4, c5, c6, c7]) = _ at e2
      change List.take (Try.prog.cellsOf 9) (List.drop 3 [c0, c1, c2, c3, c4, c5, c6, c7]) = _ at e3
      change List.take (Try.prog.cellsOf 4) (List.drop 4 [c0, c1, c2, c3, c4, c5, c6, c7]) = _ at e4
      change DataW.trod enc Try.prog w base spare held n' 22 (List.take (Try.prog.cellsOf 22) (List.drop 1 [c0, c1, c2, c3, c4, c5, c6, c7])) = _ at h1
      change DataW.trod enc Try.prog w base spare held n' 27 (List.take (Try.prog.cellsOf 27) (List.drop 5 [c0, c1, c2, c3, c4, c5, c6, c7])) = _ at h5
      rw [show Try.prog.cellsOf 4 = 1 by kernel_rfl] at e0 e4
      rw [show Try.prog.cellsOf 29 = 1 by kernel_rfl] at e2
      rw [show Try.prog.cellsOf 9 = 1 by kernel_rfl] at e3
      rw [show Try.prog.cellsOf 22 = 1 by kernel_rfl] at h1
      rw [show Try.prog.cellsOf 27 = 3 by kernel_rfl] at h5
      simp only [List.drop_zero, List.drop_succ_cons, List.take_succ_cons, List.take_zero, List.cons.injEq, and_true] at e0 e2 e3 e4 h1 h5
      subst e0 e2 e3 e4
      have hzz : ∀ k, k ∈ y1.1.weights Try.prog 22 ∨ k ∈ y5.1.weights Try.prog 27 → k ≤ reachBytes := fun k hk => hz k (by
        rw [hx1]
        simp only [DataW.weights, Try.underlying31, DataW.weightsEach, List.map_cons, List.map_nil, List.mem_append]
        rcases hk with hk | hk
        · exact .inr (.inl hk)
        · exact .inr (.inr (.inr (.inr (.inr (.inl hk))))))
      obtain ⟨E, xc, x, rfl, x1, x2, x3, x4, _⟩ := open_row (K := dotK) Try.underlying22 (by kernel_rfl) (by kernel_rfl) h1 (fun k hk => hzz k (.inl hk)) dot_elem
      obtain ⟨key, A, B, ac, lc, a, l, e5, _, k1, k2, k3, k4, k5, k6, k7, k8⟩ := object_cellsV h5 (fun k hk => hzz k (.inr hk))
      simp only [List.cons.injEq, and_true] at e5
      obtain ⟨rfl, rfl, rfl⟩ := e5
      exact ⟨⟨s0, E, x, xc, s2, s3, s4, key, A, a, ac, B, l, lc⟩, ⟨⟨x2, x1, x3, x4⟩, nat_u32 w2, k3, k4, k1, k2, k5, k6, k7, k8⟩, rfl⟩
set_option maxRecDepth 100000 in
theorem open_script {r : Reach} {b0 : Nat} {v : Value} {d : DataW H} {ps : List MemPlace} (hv : Value.okWide Try.prog w r b0 28 v) (h : DataW.Trod enc Try.prog w base spare held 28 v d ps) (hz : ∀ n ∈ d.weights Try.prog 28, n ≤ reachBytes) :
    ∃ (A : Option Addr) (c : Nat) (l : List StepV), v = .slice A l.length c ∧ GR.Rd stepK w A l ∧ l.length * 128 ≤ 140737488351232 ∧ ∀ x ∈ l, StepIn w x := by
  obtain ⟨a, len, cap, rfl⟩ := okWide_slice Try.underlying28 hv
  obtain ⟨fuel, hf⟩ := h
  have hf' : DataW.trod enc Try.prog w base spare held fuel 28 [.slice a len cap] = some (d, ps) := by simpa [Value.cells] using hf
  obtain ⟨A, c, l, e, _, h2, h3, h4, _⟩ := open_rowW (K := stepK) (P := StepIn w) Try.underlying28 (by kernel_rfl) (by kernel_rfl) hf' hz (fun n cs' z h hz => step_elem n cs' z h hz)
  exact ⟨A, c, l, e, h2, h3, h4⟩
end
end Go.Proofs.Ytljfigikkajlnaa
