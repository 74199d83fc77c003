/- DERIVED. Lists of facts of a world that stay in the worlds above it. Readers of bytes, in plain terms: a number to the base 128, so many bytes, a text; what was read stood there in its own form. The program's Reader: so many bytes, one byte, a number to the base 128, a text, the error, the end. dvv.Decode: the state whose bytes they are. The document's Reader: so many bytes, one byte, a number to the base 128, a text, the error, the end. The document's Take of a vector and of a state. The program's Reader: two bytes as a number, what is left, so many bytes. The object that a cell is: plain; the document's Unpack. The program's Unpack. -/
import Derived.Test.YtljfigikkajlnaaVm1
import Derived.Test.YtljfigikkajlnaaVDvEnc
import Derived.Test.YtljfigikkajlnaaVm8
import Derived.Test.YtljfigikkajlnaaVDvRefEnc
import Derived.Test.YtljfigikkajlnaaVFrmUint
import Derived.Test.YtljfigikkajlnaaVObPack
import Derived.Laws.Bits64b
import Derived.Lib.IndexBytes
namespace Go.Proofs.Ytljfigikkajlnaa
open Go.RowKit
set_option linter.unusedVariables false
set_option linter.unusedSimpArgs false
/-- A fact of a world that stays in each world above. -/
structure BP where
  p : World → Prop
  k : ∀ w w', Below w.heap.size w w' → p w → p w'
def bB (g : Nat) (t : TypeId) (cs : Array Value) : BP := ⟨fun w => GR.Blk w g t cs, fun _ _ hb h => h.below hb h.lt⟩
def bO (B : Nat) (u v : Value) (a : List Dot) (l : List Sib) : BP := ⟨fun w => OwnS w B u v a l, fun _ _ hb h => h.below hb⟩
def bR {α : Type} (K : GR.Kind α) (A : Option Addr) (l : List α) : BP := ⟨fun w => GR.Rd K w A l, fun _ _ hb h => h.below hb⟩
def HS (w : World) (L : List BP) : Prop := ∀ (i : Nat) (b : BP), L[i]? = some b → b.p w
theorem HS.nil (w : World) : HS w [] := fun i b h => by simp at h
theorem HS.add {w : World} {L : List BP} (h : HS w L) (b : BP) (hb : b.p w) : HS w (b :: L) := fun i c hc => by
  cases i with
  | zero => simp at hc; subst hc; exact hb
  | succ i => exact h i c (by simpa using hc)
theorem HS.below {w w' : World} {L : List BP} (h : HS w L) (hb : Below w.heap.size w w') : HS w' L := fun i b hi => b.k _ _ hb (h i b hi)
theorem HS.blk {w : World} {L : List BP} (h : HS w L) (i : Nat) {g : Nat} {t : TypeId} {cs : Array Value} (e : L[i]? = some (bB g t cs)) : GR.Blk w g t cs := h i _ e
theorem HS.own {w : World} {L : List BP} (h : HS w L) (i : Nat) {B : Nat} {u v : Value} {a : List Dot} {l : List Sib} (e : L[i]? = some (bO B u v a l)) : OwnS w B u v a l := h i _ e
theorem HS.rd {w : World} {L : List BP} {α : Type} {K : GR.Kind α} (h : HS w L) (i : Nat) {A : Option Addr} {l : List α} (e : L[i]? = some (bR K A l)) : GR.Rd K w A l := h i _ e
theorem HS.addB {w : World} {L : List BP} (h : HS w L) {g : Nat} {t : TypeId} {cs : Array Value} (hb : GR.Blk w g t cs) : HS w (bB g t cs :: L) := h.add (bB g t cs) hb
theorem HS.addO {w : World} {L : List BP} (h : HS w L) {B : Nat} {u v : Value} {a : List Dot} {l : List Sib} (hb : OwnS w B u v a l) : HS w (bO B u v a l :: L) := h.add (bO B u v a l) hb
theorem HS.addR {w : World} {L : List BP} {α : Type} {K : GR.Kind α} (h : HS w L) {A : Option Addr} {l : List α} (hb : GR.Rd K w A l) : HS w (bR K A l :: L) := h.add (bR K A l) hb
theorem HS.drop {w : World} {L : List BP} {b : BP} (h : HS w (b :: L)) : HS w L := fun i c hc => h (i + 1) c (by simpa using hc)
end Go.Proofs.Ytljfigikkajlnaa
namespace Go.Proofs.Ytljfigikkajlnaa
open Go.RowKit Go.Lib
set_option linter.unusedVariables false
set_option linter.unusedSimpArgs false
/-- A reader's place and error. -/
structure RS where
  n : Nat
  e : Int
end Go.Proofs.Ytljfigikkajlnaa
namespace Go.Proofs.Ytljfigikkajlnaa
open Go.RowKit Go.Lib
set_option linter.unusedVariables false
set_option linter.unusedSimpArgs false
/-- A Reader in block g: the bytes b, the place and the error. -/
def Rdr (w : World) (g : Nat) (b : ByteArray) (s : RS) : Prop := GR.Blk w g 121 #[.string b, .int .i64 s.n, .int .i64 s.e] ∧ s.n ≤ b.data.toList.length
theorem Rdr.below {w w' : World} {g : Nat} {b : ByteArray} {s : RS} (h : Rdr w g b s) (hb : Below w.heap.size w w') : Rdr w' g b s := ⟨h.1.below hb h.1.lt, h.2⟩
theorem grown_set {w : World} {g : Nat} (i : Nat) (u : Value) : w.grownBy (w.setCell ⟨g, i, none⟩ u) (some g) :=
  ⟨rfl, rfl, rfl, by simp [World.setCell], fun k _ hk => Below.heap_setCell _ _ _ _ (by intro e; subst e; exact hk rfl)⟩
end Go.Proofs.Ytljfigikkajlnaa
namespace Go.Proofs.Ytljfigikkajlnaa
open Go.RowKit Go.Lib
set_option linter.unusedVariables false
set_option linter.unusedSimpArgs false
theorem Rdr.far {w : World} {g : Nat} {b : ByteArray} {s : RS} {p : Addr} (h : Rdr w g b s) (hp : g ≠ p.block) (u : Value) : Rdr (w.setCell p u) g b s := ⟨h.1.far hp u, h.2⟩
/-- What stands while a state is read. -/
structure DI (w0 w : World) (R g S : Nat) (b : ByteArray) (st : RS) (v vs : Value) (a : List Dot) (l : List Sib) : Prop where
  r : GR.Blk w R 25 #[.slice none 0 0, .slice none 0 0]
  s : GR.Blk w S 25 #[v, vs]
  rd : Rdr w g b st
  d : GR.Own dotK w w0.heap.size v a
  l : GR.Own sibK w w0.heap.size vs l
  ne : R < S
  lg : w0.heap.size ≤ g
  lr : w0.heap.size ≤ R
  bl : Below w0.heap.size w0 w
theorem DI.put {w0 w w' : World} {R g S : Nat} {b : ByteArray} {st : RS} {v vs v' : Value} {a : List Dot} {l l' : List Sib} (h : DI w0 w R g S b st v vs a l) (ho : GR.Own sibK w' w0.heap.size v' l') (hg : w.grownBy w' vs.ownBlock) : DI w0 (w'.setCell ⟨S, 1, none⟩ v') R g S b st v v' a l' := by
  have r1 := h.r.grown hg (fun e => GR.own_blk_ne h.l h.r (by decide) e.symm)
  have s1 := h.s.grown hg (fun e => GR.own_blk_ne h.l h.s (by decide) e.symm)
  have d1 := h.d.grown hg (own_apart h.d h.l (by decide))
  have g1 : Rdr w' g b st := ⟨h.rd.1.grown hg (fun e => GR.own_blk_ne h.l h.rd.1 (by decide) e.symm), h.rd.2⟩
  exact ⟨r1.far (show R ≠ S from Nat.ne_of_lt h.ne) _, s1.set_ 1 _, g1.far (show g ≠ S from fun e => h.rd.1.ne_ h.s (by decide) e) _,
    own_farI d1 s1 1 _ (by decide), own_farI ho s1 1 _ (by decide), h.ne, h.lg, h.lr,
    ((Below.grown h.bl hg h.bl.size (fun k hk => (h.l.lt k hk).1)).setCell (p := ⟨S, 1, none⟩) (Nat.le_trans h.lr (Nat.le_of_lt h.ne)) v')⟩
end Go.Proofs.Ytljfigikkajlnaa
namespace Go.Proofs.Ytljfigikkajlnaa
open Go.RowKit Go.Lib
set_option linter.unusedVariables false
set_option linter.unusedSimpArgs false
/-- The document's Reader in block g. -/
def Rdd (w : World) (g : Nat) (b : ByteArray) (s : RS) : Prop := GR.Blk w g 116 #[.string b, .int .i64 s.n, .int .i64 s.e] ∧ s.n ≤ b.data.toList.length
theorem Rdd.below {w w' : World} {g : Nat} {b : ByteArray} {s : RS} (h : Rdd w g b s) (hb : Below w.heap.size w w') : Rdd w' g b s := ⟨h.1.below hb h.1.lt, h.2⟩
theorem Rdd.drewN {w : World} {g : Nat} {b : ByteArray} {s : RS} (h : Rdd w g b s) (n : Nat) : Rdd (w.drewN n) g b s := ⟨h.1.drewN n, h.2⟩
end Go.Proofs.Ytljfigikkajlnaa
namespace Go.Proofs.Ytljfigikkajlnaa
open Go.RowKit Go.Lib
set_option linter.unusedVariables false
set_option linter.unusedSimpArgs false
theorem Rdd.far {w : World} {g : Nat} {b : ByteArray} {s : RS} {p : Addr} (h : Rdd w g b s) (hp : g ≠ p.block) (u : Value) : Rdd (w.setCell p u) g b s := ⟨h.1.far hp u, h.2⟩
/-- What stands while the document takes a state. -/
structure DJ (w0 w : World) (R g S : Nat) (b : ByteArray) (st : RS) (v vs : Value) (a : List Dot) (l : List Sib) : Prop where
  r : GR.Blk w R 25 #[.slice none 0 0, .slice none 0 0]
  s : GR.Blk w S 25 #[v, vs]
  rd : Rdd w g b st
  d : GR.Own dotK w w0.heap.size v a
  l : GR.Own sibK w w0.heap.size vs l
  ne : R < S
  lr : w0.heap.size ≤ R
  gb : w0.grownBy w (some g)
theorem DJ.put {w0 w w' : World} {R g S : Nat} {b : ByteArray} {st : RS} {v vs v' : Value} {a : List Dot} {l l' : List Sib} (h : DJ w0 w R g S b st v vs a l) (ho : GR.Own sibK w' w0.heap.size v' l') (hg : w.grownBy w' vs.ownBlock) : DJ w0 (w'.setCell ⟨S, 1, none⟩ v') R g S b st v v' a l' := by
  have r1 := h.r.grown hg (fun e => GR.own_blk_ne h.l h.r (by decide) e.symm)
  have s1 := h.s.grown hg (fun e => GR.own_blk_ne h.l h.s (by decide) e.symm)
  have d1 := h.d.grown hg (own_apart h.d h.l (by decide))
  have g1 : Rdd w' g b st := ⟨h.rd.1.grown hg (fun e => GR.own_blk_ne h.l h.rd.1 (by decide) e.symm), h.rd.2⟩
  exact ⟨r1.far (show R ≠ S from Nat.ne_of_lt h.ne) _, s1.set_ 1 _, g1.far (show g ≠ S from fun e => h.rd.1.ne_ h.s (by decide) e) _,
    own_farI d1 s1 1 _ (by decide), own_farI ho s1 1 _ (by decide), h.ne, h.lr,
    GR.grown_step (GR.grown_step h.gb hg (.inr (fun k hk => (h.l.lt k hk).1))) (grown_set (g := S) 1 v') (.inr (fun k e => by injection e with e; subst e; exact Nat.le_trans h.lr (Nat.le_of_lt h.ne)))⟩
end Go.Proofs.Ytljfigikkajlnaa
namespace Go.Proofs.Ytljfigikkajlnaa
open Go.RowKit Go.Lib
set_option linter.unusedVariables false
set_option linter.unusedSimpArgs false
def n2 : List UInt8 → Nat
  | [x, y] => x.toNat * 256 + y.toNat
  | _ => 0
end Go.Proofs.Ytljfigikkajlnaa
namespace Go.Proofs.Ytljfigikkajlnaa
open Go.RowKit Go.Lib Go.Proofs.YtljfigikkajlnaaW.PrintWords
set_option linter.unusedVariables false
set_option linter.unusedSimpArgs false
theorem eqCell (d : Nat) (w : World) (a b a' b' : ByteArray) :
    (Op.equalIn (d + 2) 48 (.agg #[.string a, .string b]) (.agg #[.string a', .string b'])).run Try.prog w = .ok (decide (a = a') && decide (b = b')) w := by
  have : (decide (a = a') && decide (b = b')) = ((a.toList == a'.toList) && (b.toList == b'.toList)) := by rw [str_eq, str_eq]
  rw [this]
  refine eqA_of Try.underlying48 (by kernel_rfl) ?_
  refine eqf_cons (by rfl) (by go_simp; rfl) (by go_simp; rfl) (by go_simp) ?_
  exact eqf_last (by rfl) (by go_simp; rfl) (by go_simp; rfl) (by go_simp)
attribute [local go_sem high] eqCell
end Go.Proofs.Ytljfigikkajlnaa
namespace Go.Proofs.Ytljfigikkajlnaa
open Go.RowKit Go.Lib
set_option linter.unusedVariables false
set_option linter.unusedSimpArgs false
theorem pre_bytes (n : Nat) : (prefS n).data.toList = [UInt8.ofNat (n / 256), UInt8.ofNat (n % 256)] := by
  rw [prefS, strOfNums_data]
  simp only [List.map_cons, List.map_nil]
  rw [show ((n : Int) / 256).toNat = n / 256 by omega, show ((n : Int) % 256).toNat = n % 256 by omega]
theorem sta_abs {a : List Dot} {l : List Sib} (h : staB a l = true) (h0 : a.length = 0) : absB a l = true := by
  have ha : a = [] := List.eq_nil_of_length_eq_zero h0
  subst ha
  have hl : l = [] := by
    match l, h with
    | [], _ => rfl
    | x :: l, h =>
      have h1 := ((sta_ok h).2.2 x (by simp)).1
      simp only [cov, cnt, look, Bool.and_eq_true, decide_eq_true_eq] at h1
      simp at h1
      omega
  subst hl
  rfl
theorem absent_any (A C : Option Addr) (n c m d : Nat) (w : World) :
    Calls Try.prog 46 #[.agg #[.slice A n c, .slice C m d]] w fun e w' => e = .returned (.bool (decide (n = 0))) ∧ Below w.heap.size w w' := by
  by_cases h1 : n = 0
  · subst h1
    go_enter Try.func46, Try.ntmps46
    go_wp2
    go_ret
    exact ⟨rfl, (Below.refl _ _).alloc (Nat.le_refl _) _⟩
  · have e1 : ((n : Int) == 0) = false := by simp; omega
    have e2 : decide ((n : Int) = 0) = false := by simp; omega
    have e3 : decide (n = 0) = false := by simp; omega
    have e4 : (n == 0) = false := by simp; omega
    have HE := Lib.hid e3
    clear h1
    go_enter Try.func46, Try.ntmps46
    go_wp2
    go_ret
    exact ⟨by rw [HE.out]; rfl, (Below.refl _ _).alloc (Nat.le_refl _) _⟩
end Go.Proofs.Ytljfigikkajlnaa
