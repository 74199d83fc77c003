/- DERIVED. What changes in some blocks alone; the marks behind a state's lists. What the siblings of a join are, how many, of what counts. No program in sight. -/
import Derived.Test.YtljfigikkajlnaaVm3
import Derived.Test.YtljfigikkajlnaaVDvJoin
import Derived.Test.YtljfigikkajlnaaVm11
import Derived.WalkMore
import Derived.Lib.Strings
import Derived.Laws.Runes
namespace Go.Proofs.Ytljfigikkajlnaa
open Go.RowKit
set_option linter.unusedVariables false
set_option linter.unusedSimpArgs false
/-- The world is changed in the blocks S alone (and has new ones). -/
structure Chg (S : Nat → Prop) (w w' : World) : Prop where
  os : w'.os = w.os
  tape : w'.tape = w.tape
  output : w'.output = w.output
  size : w.heap.size ≤ w'.heap.size
  block : ∀ k, k < w.heap.size → ¬ S k → w'.heap[k]? = w.heap[k]?
theorem Chg.refl (S : Nat → Prop) (w : World) : Chg S w w := ⟨rfl, rfl, rfl, Nat.le_refl _, fun _ _ _ => rfl⟩
theorem Chg.trans {S T : Nat → Prop} {a b c : World} (h : Chg S a b) (k : Chg T b c) (hT : ∀ i, i < a.heap.size → T i → S i) : Chg S a c :=
  ⟨k.os.trans h.os, k.tape.trans h.tape, k.output.trans h.output, Nat.le_trans h.size k.size, fun i hi hn => (k.block i (Nat.lt_of_lt_of_le hi h.size) (fun ht => hn (hT i hi ht))).trans (h.block i hi hn)⟩
theorem Chg.then {S : Nat → Prop} {a b c : World} (h : Chg S a b) (k : Chg S b c) : Chg S a c := h.trans k fun _ _ h => h
theorem chg_bl {S : Nat → Prop} {w w' : World} (h : Below w.heap.size w w') : Chg S w w' := ⟨h.os, h.tape, h.output, h.size, fun k hk _ => h.block k hk⟩
theorem Chg.bl {S : Nat → Prop} {a b c : World} (h : Chg S a b) (k : Below b.heap.size b c) : Chg S a c := h.then (chg_bl k)
theorem chg_grown {S : Nat → Prop} {w w' : World} {r : Option Nat} (h : w.grownBy w' r) (hr : ∀ k, r = some k → k < w.heap.size → S k) : Chg S w w' :=
  ⟨h.os, h.tape, h.output, h.size, fun k hk hn => h.block k hk (fun e => hn (hr k e.symm hk))⟩
theorem chg_set {S : Nat → Prop} {w : World} {g : Nat} (i : Nat) (u : Value) (hg : S g ∨ w.heap.size ≤ g) : Chg S w (w.setCell ⟨g, i, none⟩ u) :=
  ⟨rfl, rfl, rfl, by simp [World.setCell], fun k hk hn => Below.heap_setCell _ _ _ _ (by
    rintro rfl
    rcases hg with hg | hg
    · exact hn hg
    · exact absurd hk (Nat.not_lt.2 hg))⟩
theorem Chg.below {S : Nat → Prop} {w w' : World} {B : Nat} (h : Chg S w w') (hB : B ≤ w.heap.size) (hS : ∀ k, S k → B ≤ k) : Below B w w' :=
  ⟨h.os, h.tape, h.output, h.size, fun k hk => h.block k (Nat.lt_of_lt_of_le hk hB) (fun hs => absurd (hS k hs) (Nat.not_le.2 hk))⟩
theorem Chg.none {S : Nat → Prop} {w w' : World} (h : Chg S w w') (hS : ∀ k, ¬ S k) : Below w.heap.size w w' := h.below (Nat.le_refl _) fun k hk => absurd hk (hS k)
section
variable {α : Type} {K : GR.Kind α} {w w' : World} {B : Nat} {v : Value} {l : List α} {S : Nat → Prop}
theorem own_chg (h : GR.Own K w B v l) (hc : Chg S w w') (hv : ∀ k, v.ownBlock = some k → ¬ S k) : GR.Own K w' B v l := by
  refine ⟨h.1, ?_⟩
  rcases h.2 with hn | ⟨g, cap, cur, rfl, hb, hgg, rest⟩
  · exact .inl hn
  · refine .inr ⟨g, cap, cur, rfl, hb, ?_, rest⟩
    rw [hc.block g (Array.getElem?_eq_some_iff.1 hgg).1 (hv g rfl)]
    exact hgg
theorem blk_chg {g : Nat} {t : TypeId} {cs : Array Value} (h : GR.Blk w g t cs) (hc : Chg S w w') (hg : ¬ S g) : GR.Blk w' g t cs := (hc.block g h.lt hg).trans h
end
theorem own_farI {α : Type} {K : GR.Kind α} {w : World} {g B : Nat} {t : TypeId} {cs : Array Value} {v : Value} {l : List α} (h : GR.Own K w B v l) (bg : GR.Blk w g t cs) (i : Nat) (u : Value) (hne : K.e ≠ t) : GR.Own K (w.setCell ⟨g, i, none⟩ u) B v l :=
  own_chg (S := fun k => k = g) h (chg_set i u (.inl rfl)) fun k hk e => by subst e; exact GR.own_blk_ne h bg hne hk
theorem own_lit {α : Type} {K : GR.Kind α} {w : World} {B : Nat} {v : Value} {l : List α} (h : GR.Own K w B v l) (n : Nat) (hn : l.length = n) (h0 : 0 < n) : ∃ g cap : Nat, v = .slice (some ⟨g, 0, none⟩) n cap ∧ n ≤ cap ∧ cap ≤ 9223372036854775807 := by
  subst hn
  rcases h.2 with ⟨_, h1⟩ | ⟨g, cap, cur, rfl, _, _, h1, h2, _⟩
  · omega
  · exact ⟨g, cap, rfl, h1, h2⟩
/-- The blocks of two values' rows. -/
def rows2 (u v : Value) (k : Nat) : Prop := u.ownBlock = some k ∨ v.ownBlock = some k
theorem own_ne {α β : Type} {K : GR.Kind α} {J : GR.Kind β} {w : World} {B B' : Nat} {u v : Value} {l : List α} {m : List β} (h : GR.Own K w B u l) (k : GR.Own J w B' v m) (hne : K.e ≠ J.e) : ∀ i, u.ownBlock = some i → v.ownBlock ≠ some i := fun i hi => by
  rcases own_apart h k hne with h0 | h0
  · rw [h0] at hi; cases hi
  · intro e; exact h0 (by rw [hi, e])
/-- A value's state: dots and siblings in rows of the call's own. -/
structure OwnS (w : World) (B : Nat) (u v : Value) (a : List Dot) (l : List Sib) : Prop where
  d : GR.Own dotK w B u a
  s : GR.Own sibK w B v l
/-- No row of the one is a row of the other. -/
structure ApS (u v x y : Value) : Prop where
  d : ∀ k, u.ownBlock = some k → x.ownBlock ≠ some k
  s : ∀ k, v.ownBlock = some k → y.ownBlock ≠ some k
theorem ApS.symm {u v x y : Value} (h : ApS u v x y) : ApS x y u v := ⟨fun k hk e => h.d k e hk, fun k hk e => h.s k e hk⟩
section
variable {w w' : World} {B B' : Nat} {u v x y : Value} {a b : List Dot} {l m : List Sib}
theorem OwnS.below (h : OwnS w B u v a l) (hb : Below w.heap.size w w') : OwnS w' B u v a l := ⟨h.d.below hb, h.s.below hb⟩
theorem OwnS.base (h : OwnS w B u v a l) (hB : B' ≤ B) : OwnS w B' u v a l := ⟨h.d.base hB, h.s.base hB⟩
/-- The other state's rows change: this state stays. -/
theorem OwnS.far (h : OwnS w B u v a l) (k : OwnS w B' x y b m) (ap : ApS u v x y) (hc : Chg (rows2 x y) w w') : OwnS w' B u v a l :=
  ⟨own_chg h.d hc fun i hi hr => by
    rcases hr with hr | hr
    · exact ap.d i hi hr
    · exact own_ne h.d k.s (by decide) i hi hr,
   own_chg h.s hc fun i hi hr => by
    rcases hr with hr | hr
    · exact own_ne h.s k.d (by decide) i hi hr
    · exact ap.s i hi hr⟩
theorem OwnS.lt (h : OwnS w B u v a l) : ∀ k, rows2 u v k → k < w.heap.size := fun k hk => by
  rcases hk with hk | hk
  · exact (h.d.lt k hk).2
  · exact (h.s.lt k hk).2
theorem OwnS.blk {g : Nat} {cs : Array Value} (h : OwnS w B u v a l) (bg : GR.Blk w g 25 cs) (hc : Chg (rows2 u v) w w') : GR.Blk w' g 25 cs :=
  blk_chg bg hc fun hr => by
    rcases hr with hr | hr
    · exact GR.own_blk_ne h.d bg (by decide) hr
    · exact GR.own_blk_ne h.s bg (by decide) hr
theorem OwnS.sl (h : OwnS w B u v a l) (ha : a.length * 16 ≤ 140737488355328) (hl : l.length * 40 ≤ 140737488355328) : ∃ A c D d, u = .slice A a.length c ∧ v = .slice D l.length d ∧ a.length ≤ c ∧ l.length ≤ d ∧ GR.Rd dotK w A a ∧ GR.Rd sibK w D l := by
  obtain ⟨A, c, e1, h1, r1⟩ := h.d.rd' ha
  obtain ⟨D, d, e2, h2, r2⟩ := h.s.rd' hl
  exact ⟨A, c, D, d, e1, e2, h1, h2, r1, r2⟩
end
theorem csd_set (l : List Dot) (i : Nat) (x : Dot) (hi : i < l.length) : GR.cs dotK (l.set i x) = ((GR.cs dotK l).set (i * 2) (.int .u32 x.a)).set (i * 2 + 1) (.int .u64 x.n) := by
  induction l generalizing i with
  | nil => exact absurd hi (by simp)
  | cons y l ih =>
    cases i with
    | zero => rfl
    | succ i =>
      rw [List.set_cons_succ, GR.cs_cons, GR.cs_cons, ih i (by simpa using hi)]
      rw [show (i + 1) * 2 = i * 2 + 1 + 1 by omega]
      rfl
theorem css_set (l : List Sib) (i : Nat) (x : Sib) (hi : i < l.length) : GR.cs sibK (l.set i x) = ((((GR.cs sibK l).set (i * 4) (.int .u32 x.d.a)).set (i * 4 + 1) (.int .u64 x.d.n)).set (i * 4 + 2) (.bool x.gone)).set (i * 4 + 3) (.string x.v) := by
  induction l generalizing i with
  | nil => exact absurd hi (by simp)
  | cons y l ih =>
    cases i with
    | zero => rfl
    | succ i =>
      rw [List.set_cons_succ, GR.cs_cons, GR.cs_cons, ih i (by simpa using hi)]
      rw [show (i + 1) * 4 = i * 4 + 1 + 1 + 1 + 1 by omega]
      rfl
theorem own_n {α : Type} {K : GR.Kind α} {w : World} {B g n cap : Nat} {l : List α} (h : GR.Own K w B (.slice (some ⟨g, 0, none⟩) n cap) l) : n = l.length := by
  rcases h.2 with ⟨hv, _⟩ | ⟨_, _, _, hv, _⟩
  · cases hv
  · injection hv
theorem ownd_set {w : World} {B g n cap : Nat} {l : List Dot} (h : GR.Own dotK w B (.slice (some ⟨g, 0, none⟩) n cap) l) (i : Nat) (hi : i < l.length) (x y : Int) :
    GR.Own dotK ((w.setCell ⟨g, i * 2, none⟩ (.int .u32 x)).setCell ⟨g, i * 2 + 1, none⟩ (.int .u64 y)) B (.slice (some ⟨g, 0, none⟩) n cap) (l.set i ⟨x, y⟩) := by
  obtain rfl := own_n h
  have := (World.ownsRow.stored (World.ownsRow.stored h (i * 2) (.int .u32 x)).1 (i * 2 + 1) (.int .u64 y)).1
  unfold GR.Own
  rw [List.length_set, csd_set l i _ hi]
  exact this
theorem owns_set {w : World} {B g n cap : Nat} {l : List Sib} (h : GR.Own sibK w B (.slice (some ⟨g, 0, none⟩) n cap) l) (i : Nat) (hi : i < l.length) (x y : Int) (z : Bool) (u : ByteArray) :
    GR.Own sibK ((((w.setCell ⟨g, i * 4, none⟩ (.int .u32 x)).setCell ⟨g, i * 4 + 1, none⟩ (.int .u64 y)).setCell ⟨g, i * 4 + 2, none⟩ (.bool z)).setCell ⟨g, i * 4 + 3, none⟩ (.string u)) B (.slice (some ⟨g, 0, none⟩) n cap) (l.set i ⟨⟨x, y⟩, z, u⟩) := by
  obtain rfl := own_n h
  have := (World.ownsRow.stored (World.ownsRow.stored (World.ownsRow.stored (World.ownsRow.stored h (i * 4) (.int .u32 x)).1 (i * 4 + 1) (.int .u64 y)).1 (i * 4 + 2) (.bool z)).1 (i * 4 + 3) (.string u)).1
  unfold GR.Own
  rw [List.length_set, css_set l i _ hi]
  exact this
end Go.Proofs.Ytljfigikkajlnaa
namespace Go.Proofs.Ytljfigikkajlnaa
open Go.RowKit
set_option linter.unusedVariables false
set_option linter.unusedSimpArgs false
theorem sjoin_mem {ca cb : Dot → Bool} : ∀ (l m : List Sib) (x : Sib), x ∈ sjoin ca cb l m → x ∈ l ∨ x ∈ m
  | [], [], x, h => by rw [sj_end] at h; cases h
  | [], y :: m, x, h => by
    rw [sjoin] at h
    split at h
    · rcases sjoin_mem [] m x h with h | h
      · exact .inl h
      · exact .inr (List.mem_cons_of_mem _ h)
    · rcases List.mem_cons.1 h with rfl | h
      · exact .inr (by simp)
      · rcases sjoin_mem [] m x h with h | h
        · exact .inl h
        · exact .inr (List.mem_cons_of_mem _ h)
  | y :: l, [], x, h => by
    rw [sjoin] at h
    split at h
    · rcases sjoin_mem l [] x h with h | h
      · exact .inl (List.mem_cons_of_mem _ h)
      · exact .inr h
    · rcases List.mem_cons.1 h with rfl | h
      · exact .inl (by simp)
      · rcases sjoin_mem l [] x h with h | h
        · exact .inl (List.mem_cons_of_mem _ h)
        · exact .inr h
  | y :: l, z :: m, x, h => by
    rw [sjoin] at h
    split at h
    · split at h
      · rcases sjoin_mem l (z :: m) x h with h | h
        · exact .inl (List.mem_cons_of_mem _ h)
        · exact .inr h
      · rcases List.mem_cons.1 h with rfl | h
        · exact .inl (by simp)
        · rcases sjoin_mem l (z :: m) x h with h | h
          · exact .inl (List.mem_cons_of_mem _ h)
          · exact .inr h
    · split at h
      · split at h
        · rcases sjoin_mem (y :: l) m x h with h | h
          · exact .inl h
          · exact .inr (List.mem_cons_of_mem _ h)
        · rcases List.mem_cons.1 h with rfl | h
          · exact .inr (by simp)
          · rcases sjoin_mem (y :: l) m x h with h | h
            · exact .inl h
            · exact .inr (List.mem_cons_of_mem _ h)
      · rcases List.mem_cons.1 h with rfl | h
        · unfold lesS
          split
          · exact .inr (by simp)
          · exact .inl (by simp)
        · rcases sjoin_mem l m x h with h | h
          · exact .inl (List.mem_cons_of_mem _ h)
          · exact .inr (List.mem_cons_of_mem _ h)
termination_by l m => l.length + m.length
theorem vmax_pos : ∀ (a b : List Dot), (∀ d ∈ a, 0 ≤ d.n) → (∀ d ∈ b, 0 ≤ d.n) → ∀ d ∈ vmax a b, 0 ≤ d.n
  | [], b, _, hb => by rw [vmax_nil_left]; exact hb
  | x :: a, [], ha, _ => by rw [vmax_nil_right]; exact ha
  | x :: a, y :: b, ha, hb => by
    have ha2 : ∀ d ∈ a, 0 ≤ d.n := fun d hd => ha d (List.mem_cons_of_mem _ hd)
    have hb2 : ∀ d ∈ b, 0 ≤ d.n := fun d hd => hb d (List.mem_cons_of_mem _ hd)
    have hx := ha x (by simp)
    have hy := hb y (by simp)
    rw [vmax]
    split
    · intro d hd
      rcases List.mem_cons.1 hd with rfl | hd
      · exact hx
      · exact vmax_pos a (y :: b) ha2 hb d hd
    · split
      · intro d hd
        rcases List.mem_cons.1 hd with rfl | hd
        · exact hy
        · exact vmax_pos (x :: a) b ha hb2 d hd
      · intro d hd
        rcases List.mem_cons.1 hd with rfl | hd
        · show 0 ≤ max x.n y.n
          omega
        · exact vmax_pos a b ha2 hb2 d hd
termination_by a b => a.length + b.length
theorem join_small (a : List Dot) (l : List Sib) (b : List Dot) (m : List Sib) : (joinA a l b m).length ≤ 64 ∧ (joinL a l b m).length ≤ 64 := by
  rcases join_cases a l b m with ⟨h, h1, h2⟩ | ⟨_, h1, h2⟩
  · rw [h1, h2]
    unfold joinE at h
    split at h
    · split at h
      · split at h
        · exact ⟨‹_›, ‹_›⟩
        · omega
      · omega
    · omega
  · rw [h1, h2]; simp
/-- A join of states whose slices are spelled by their own numbers. -/
theorem join_at (A B C D : Option Addr) (c1 c2 c3 c4 n m n' m' : Nat) (a b : List Dot) (l k : List Sib) (w : World) (ha : GR.Rd dotK w A a) (hl : GR.Rd sibK w B l) (hb : GR.Rd dotK w C b) (hm : GR.Rd sibK w D k) (h1 : n = a.length) (h2 : m = l.length) (h3 : n' = b.length) (h4 : m' = k.length) (hca : n ≤ c1) (hcb : n' ≤ c3)
    (na : ∀ d ∈ a, 0 ≤ d.n) (nl : ∀ x ∈ l, 0 ≤ x.d.n) (nb : ∀ d ∈ b, 0 ≤ d.n) (nm : ∀ x ∈ k, 0 ≤ x.d.n) :
    Calls Try.prog 35 #[.agg #[.slice A n c1, .slice B m c2], .agg #[.slice C n' c3, .slice D m' c4]] w fun e w' => ∃ v1 v2, e = .returned (.tuple #[.agg #[v1, v2], .int .i64 (joinE a l b k)]) ∧ OwnS w' w.heap.size v1 v2 (joinA a l b k) (joinL a l b k) ∧ Below w.heap.size w w' := by
  subst h1 h2 h3 h4
  refine (join_any A B C D c1 c2 c3 c4 a b l k w ha hl hb hm hca hcb na nl nb nm).mono ?_
  rintro e w' ⟨v1, v2, rfl, h1, h2, h3⟩
  exact ⟨v1, v2, rfl, ⟨h1, h2⟩, h3⟩
end Go.Proofs.Ytljfigikkajlnaa
