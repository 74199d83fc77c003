/- DERIVED. What stays where one row or block is changed; contracts of puts and merges with their answers named. -/
import Derived.Test.YtljfigikkajlnaaVm13
import Derived.Test.YtljfigikkajlnaaVm12
import Derived.Test.YtljfigikkajlnaaVObPutM
import Derived.Test.YtljfigikkajlnaaVObTurn
namespace Go.Proofs.Ytljfigikkajlnaa
open Go.RowKit Go.Lib
set_option linter.unusedVariables false
set_option linter.unusedSimpArgs false
theorem rows2_rng {w : World} {B : Nat} {u v : Value} {a : List Dot} {l : List Sib} (h : OwnS w B u v a l) : ∀ k, rows2 u v k → B ≤ k ∧ k < w.heap.size := fun k hk => by
  rcases hk with hk | hk
  · exact h.d.lt k hk
  · exact h.s.lt k hk
theorem owns_apart {w w' : World} {B b1 e1 b2 e2 : Nat} {u v p q : Value} {a : List Dot} {l : List Sib} (h : OwnS w B u v a l) (hc : Chg (rows2 p q) w w') (r1 : ∀ k, rows2 u v k → b1 ≤ k ∧ k < e1) (r2 : ∀ k, rows2 p q k → b2 ≤ k ∧ k < e2) (hd : e1 ≤ b2 ∨ e2 ≤ b1) : OwnS w' B u v a l :=
  ⟨own_chg h.d hc (fun k hk e => by
    have h1 := r1 k (.inl hk)
    have h2 := r2 k e
    omega), own_chg h.s hc (fun k hk e => by
    have h1 := r1 k (.inr hk)
    have h2 := r2 k e
    omega)⟩
theorem blk_farT {w w' : World} {g B : Nat} {t : TypeId} {cs : Array Value} {u v : Value} {p : List Dot} {q : List Sib} (bg : GR.Blk w g t cs) (h : OwnS w B u v p q) (hc : Chg (rows2 u v) w w') (h1 : dotK.e ≠ t := by decide) (h2 : sibK.e ≠ t := by decide) : GR.Blk w' g t cs :=
  blk_chg bg hc fun hr => by
    rcases hr with hr | hr
    · exact GR.own_blk_ne h.d bg h1 hr
    · exact GR.own_blk_ne h.s bg h2 hr
theorem owns_blk {w w' : World} {g B : Nat} {t : TypeId} {cs : Array Value} {u v : Value} {p : List Dot} {q : List Sib} (h : OwnS w B u v p q) (bg : GR.Blk w g t cs) (hc : Chg (fun k => k = g) w w') (h1 : dotK.e ≠ t := by decide) (h2 : sibK.e ≠ t := by decide) : OwnS w' B u v p q :=
  ⟨own_chg h.d hc (fun k hk e => by subst e; exact GR.own_blk_ne h.d bg h1 hk), own_chg h.s hc (fun k hk e => by subst e; exact GR.own_blk_ne h.s bg h2 hk)⟩
theorem blk_ne {w w' : World} {g g' : Nat} {t : TypeId} {cs : Array Value} (bg : GR.Blk w g t cs) (hc : Chg (fun k => k = g') w w') (h : g ≠ g') : GR.Blk w' g t cs := blk_chg bg hc h
theorem chg_one {P : Nat → Prop} {w w' : World} {g : Nat} (h : Chg (fun k => k = g) w w') (hP : P g) : Chg P w w' := ⟨h.os, h.tape, h.output, h.size, fun k hk hn => h.block k hk (fun e => hn (by subst e; exact hP))⟩
theorem chg_set3 (w : World) (g : Nat) (x y z : Value) : Chg (fun k => k = g) w (((w.setCell ⟨g, 0, none⟩ x).setCell ⟨g, 1, none⟩ y).setCell ⟨g, 2, none⟩ z) :=
  (((Chg.refl (fun k => k = g) w).then (chg_set (S := fun k => k = g) 0 x (.inl rfl))).then (chg_set (S := fun k => k = g) 1 y (.inl rfl))).then (chg_set (S := fun k => k = g) 2 z (.inl rfl))
theorem chg_set2 (w : World) (g : Nat) (x y : Value) : Chg (fun k => k = g) w ((w.setCell ⟨g, 0, none⟩ x).setCell ⟨g, 1, none⟩ y) :=
  ((Chg.refl (fun k => k = g) w).then (chg_set (S := fun k => k = g) 0 x (.inl rfl))).then (chg_set (S := fun k => k = g) 1 y (.inl rfl))
theorem blk_set3 {w : World} {g : Nat} {t : TypeId} {p q r x y z : Value} (bg : GR.Blk w g t #[p, q, r]) : GR.Blk (((w.setCell ⟨g, 0, none⟩ x).setCell ⟨g, 1, none⟩ y).setCell ⟨g, 2, none⟩ z) g t #[x, y, z] := ((bg.set_ 0 x).set_ 1 y).set_ 2 z
theorem blk_set2 {w : World} {g : Nat} {t : TypeId} {p q x y : Value} (bg : GR.Blk w g t #[p, q]) : GR.Blk ((w.setCell ⟨g, 0, none⟩ x).setCell ⟨g, 1, none⟩ y) g t #[x, y] := (bg.set_ 0 x).set_ 1 y
/-- What an object of the script's run holds. -/
structure OIn (w : World) (A B : Option Addr) (c d : Nat) (a : List Dot) (l : List Sib) : Prop where
  ra : GR.Rd dotK w A a
  rl : GR.Rd sibK w B l
  ca : a.length ≤ c
  cl : l.length ≤ d
  sa : a.length * 16 ≤ 140737488351232
  sl : l.length * 40 ≤ 140737488351232
  str : StR a l
  vs : ∀ x ∈ l, x.v.size ≤ 140737488351232
theorem OIn.below {w w' : World} {A B : Option Addr} {c d : Nat} {a : List Dot} {l : List Sib} (h : OIn w A B c d a l) (hb : Below w.heap.size w w') : OIn w' A B c d a l := ⟨h.ra.below hb, h.rl.below hb, h.ca, h.cl, h.sa, h.sl, h.str, h.vs⟩
theorem oin_own {w : World} {B0 : Nat} {key : ByteArray} {A B : Option Addr} {c d : Nat} {a : List Dot} {l : List Sib} (h : OwnS w B0 (.slice A a.length c) (.slice B l.length d) a l) (hc : chkE key a l = 0) (hr : StR a l) : OIn w A B c d a l := by
  have h1 := sta_ok (chk_cases hc).2.1
  have h2 := vec_len h1.1
  have sa : a.length * 16 ≤ 140737488355328 := by omega
  have sl : l.length * 40 ≤ 140737488355328 := by omega
  refine ⟨(h.d.rd sa).2.2, (h.s.rd sl).2.2, own_cap h.d, own_cap h.s, by omega, by omega, hr, fun x hx => ?_⟩
  have := (h1.2.2 x hx).2.1
  omega
section
variable {ka kb key : ByteArray} {A B C D E : Option Addr} {c1 c2 c3 c4 n1 n2 n3 n4 : Nat} {a b : List Dot} {l m : List Sib} {w : World}
theorem domrgO (J : List Dot) (M : List Sib) (x : Int) (ha : GR.Rd dotK w A a) (hl : GR.Rd sibK w B l) (hb : GR.Rd dotK w C b) (hm : GR.Rd sibK w D m) (h1 : n1 = a.length) (h2 : n2 = l.length) (h3 : n3 = b.length) (h4 : n4 = m.length) (hr : StR a l) (hs : StR b m)
    (e0 : omrgK ka a l kb b m = key) (e1 : omrgA ka a l kb b m = J) (e2 : omrgL ka a l kb b m = M) (e3 : omrgE ka a l kb b m = x) :
    Calls Try.prog 11 #[.agg #[.string ka, .slice A n1 c1, .slice B n2 c2], .agg #[.string kb, .slice C n3 c3, .slice D n4 c4]] w
      fun e w' => ∃ (A B : Option Addr) (c d : Nat), e = .returned (.tuple #[.agg #[.string key, .slice A J.length c, .slice B M.length d], .int .i64 x]) ∧ OwnS w' w.heap.size (.slice A J.length c) (.slice B M.length d) J M ∧ Below w.heap.size w w' := by
  subst h1 h2 h3 h4 e0 e1 e2 e3
  have sz := mrg_small ka a l kb b m
  have sa : (omrgA ka a l kb b m).length * 16 ≤ 140737488355328 := by omega
  have sl : (omrgL ka a l kb b m).length * 40 ≤ 140737488355328 := by omega
  refine (domrg_any ka kb A B C D c1 c2 c3 c4 a b l m w ha hl hb hm hr hs).mono ?_
  rintro e w' ⟨v1, v2, rfl, ho, hb⟩
  obtain ⟨A1, n1, k1, rfl⟩ := own_slice ho.d sa
  obtain ⟨A2, n2, k2, rfl⟩ := own_slice ho.s sl
  obtain rfl := own_n' ho.d
  obtain rfl := own_n' ho.s
  exact ⟨_, _, _, _, rfl, ho, hb⟩
end
theorem oput_small (key : ByteArray) (s : List Dot) (l : List Sib) (ctx : List Dot) (a : Int) (v : ByteArray) (g : Bool) : (oputA key s l ctx a v g).length ≤ 64 ∧ (oputL key s l ctx a v g).length ≤ 64 := by
  have sm := put_small s l ctx a v g
  unfold oputA oputL
  split
  · exact sm
  · simp
theorem oput_str {key : ByteArray} {s ctx : List Dot} {l : List Sib} {a : Int} {v : ByteArray} {g : Bool} (hs : StR s l) (hc : ∀ d ∈ ctx, 0 ≤ d.n ∧ 0 ≤ d.a ∧ d.a ≤ 4294967295) (ha : 0 ≤ a ∧ a ≤ 4294967295) : StR (oputA key s l ctx a v g) (oputL key s l ctx a v g) := by
  unfold oputA oputL
  split
  · exact put_str hs hc ha
  · exact ⟨fun d hd => (by cases hd), fun d hd => (by cases hd)⟩
section
variable {key kk : ByteArray} {A C E : Option Addr} {c d c3 n1 n2 n3 : Nat} {s ctx : List Dot} {l : List Sib} {a : Int} {v : ByteArray} {g : Bool} {w : World}
theorem doputO (J : List Dot) (M : List Sib) (D : Dot) (x : Int) (hs : GR.Rd dotK w A s) (hl : GR.Rd sibK w C l) (hx : GR.Rd dotK w E ctx) (h1 : n1 = s.length) (h2 : n2 = l.length) (h3 : n3 = ctx.length) (hr : StR s l) (hq : ∀ d ∈ ctx, 0 ≤ d.n ∧ 0 ≤ d.a ∧ d.a ≤ 4294967295) (ha : 0 ≤ a ∧ a ≤ 4294967295)
    (e0 : oputK key s l ctx a v g = kk) (e1 : oputA key s l ctx a v g = J) (e2 : oputL key s l ctx a v g = M) (e3 : oputE key s l ctx a v g = x) (e4 : oputD key s l ctx a v g = D) :
    Calls Try.prog 16 #[.agg #[.string key, .slice A n1 c, .slice C n2 d], .slice E n3 c3, .int .u32 a, .string v, .bool g] w
      fun e w' => ∃ (A B : Option Addr) (c d : Nat), e = .returned (.tuple #[.agg #[.string kk, .slice A J.length c, .slice B M.length d], .agg #[.int .u32 D.a, .int .u64 D.n], .int .i64 x]) ∧ OwnS w' w.heap.size (.slice A J.length c) (.slice B M.length d) J M ∧ Below w.heap.size w w' := by
  subst h1 h2 h3 e0 e1 e2 e3 e4
  have sz := oput_small key s l ctx a v g
  have sa : (oputA key s l ctx a v g).length * 16 ≤ 140737488355328 := by omega
  have sl : (oputL key s l ctx a v g).length * 40 ≤ 140737488355328 := by omega
  refine (doput_any key A C E c d c3 s l ctx a v g w hs hl hx hr hq ha).mono ?_
  rintro e w' ⟨v1, v2, rfl, ho, hb⟩
  obtain ⟨A1, n1, k1, rfl⟩ := own_slice ho.d sa
  obtain ⟨A2, n2, k2, rfl⟩ := own_slice ho.s sl
  obtain rfl := own_n' ho.d
  obtain rfl := own_n' ho.s
  exact ⟨_, _, _, _, rfl, ho, hb⟩
theorem oputO (J : List Dot) (M : List Sib) (D : Dot) (x : Int) (hs : GR.Rd dotK w A s) (hl : GR.Rd sibK w C l) (hx : GR.Rd dotK w E ctx) (h1 : n1 = s.length) (h2 : n2 = l.length) (h3 : n3 = ctx.length) (hcs : s.length ≤ c) (hcc : ctx.length ≤ c3) (hr : StR s l) (hq : ∀ d ∈ ctx, 0 ≤ d.n ∧ 0 ≤ d.a ∧ d.a ≤ 4294967295) (ha : 0 ≤ a ∧ a ≤ 4294967295)
    (e0 : oputK key s l ctx a v g = kk) (e1 : oputA key s l ctx a v g = J) (e2 : oputL key s l ctx a v g = M) (e3 : oputE key s l ctx a v g = x) (e4 : oputD key s l ctx a v g = D) :
    Calls Try.prog 17 #[.agg #[.string key, .slice A n1 c, .slice C n2 d], .slice E n3 c3, .int .u32 a, .string v, .bool g] w
      fun e w' => ∃ (A B : Option Addr) (c d : Nat), e = .returned (.tuple #[.agg #[.string kk, .slice A J.length c, .slice B M.length d], .agg #[.int .u32 D.a, .int .u64 D.n], .int .i64 x]) ∧ OwnS w' w.heap.size (.slice A J.length c) (.slice B M.length d) J M ∧ Below w.heap.size w w' := by
  subst h1 h2 h3 e0 e1 e2 e3 e4
  have sz := oput_small key s l ctx a v g
  have sa : (oputA key s l ctx a v g).length * 16 ≤ 140737488355328 := by omega
  have sl : (oputL key s l ctx a v g).length * 40 ≤ 140737488355328 := by omega
  refine (oput_any key A C E c d c3 s l ctx a v g w hs hl hx hcs hcc hr hq ha).mono ?_
  rintro e w' ⟨v1, v2, rfl, ho, hb⟩
  obtain ⟨A1, n1, k1, rfl⟩ := own_slice ho.d sa
  obtain ⟨A2, n2, k2, rfl⟩ := own_slice ho.s sl
  obtain rfl := own_n' ho.d
  obtain rfl := own_n' ho.s
  exact ⟨_, _, _, _, rfl, ho, hb⟩
end
/-- What is told without a mistake may be. -/
theorem omrg_chk {ka kb : ByteArray} {a b : List Dot} {l m : List Sib} (h : omrgE ka a l kb b m = 0) : chkE ka (omrgA ka a l kb b m) (omrgL ka a l kb b m) = 0 := by
  obtain ⟨_, _, h2, h3⟩ := omrg_yes h
  rw [h2, h3]
  exact (omrg_zero h).2.2.2.2
theorem oput_chk {key : ByteArray} {s ctx : List Dot} {l : List Sib} {a : Int} {v : ByteArray} {g : Bool} (h : oputE key s l ctx a v g = 0) : chkE key (oputA key s l ctx a v g) (oputL key s l ctx a v g) = 0 := by
  obtain ⟨_, _, _, h2, h3⟩ := oput_yes h
  rw [h2, h3]
  unfold oputE at h
  by_cases h1 : chkE key s l = 0
  · rw [if_pos h1] at h
    by_cases h4 : putE s l ctx a v g = 0
    · rw [if_pos h4] at h; exact h
    · rw [if_neg h4] at h; exact absurd h h4
  · rw [if_neg h1] at h; exact absurd h h1
end Go.Proofs.Ytljfigikkajlnaa
