/- DERIVED. The document's Place, Check, Absent, Pack of an object. The document's Pack of an object: the plain cell; the walk. The document's Reader: so many bytes, one byte, a number to the base 128, a text, the error, the end. The document's Take of a vector and of a state. The program's Reader: two bytes as a number, what is left, so many bytes. The object that a cell is: plain; the document's Unpack. -/
import Derived.Test.YtljfigikkajlnaaVm1
import Derived.Test.YtljfigikkajlnaaVDvDec
import Derived.Test.YtljfigikkajlnaaVDvEnc
import Derived.Test.YtljfigikkajlnaaVm7
import Derived.Test.YtljfigikkajlnaaVm9
import Derived.Test.YtljfigikkajlnaaVDvValid
import Derived.Test.YtljfigikkajlnaaVm11
import Derived.Test.YtljfigikkajlnaaVRdW
import Derived.Test.YtljfigikkajlnaaVm12
import Derived.WalkMore
import Derived.Deep.Cut
import Derived.Deep.CutRange
import Derived.Lib.Strings
import Derived.Laws.Runes
import Derived.Lib.IndexBytes
namespace Go.Proofs.Ytljfigikkajlnaa
open Go.RowKit Go.Lib
set_option linter.unusedVariables false
set_option linter.unusedSimpArgs false
attribute [local irreducible] arrW arrB
section
attribute [local irreducible] wpList Code.wp
end
def chkE (key : ByteArray) (a : List Dot) (l : List Sib) : Int := if keyB key = false then 130 else if staB a l = false then 110 else if 280 < (encS a l).length then 82 else 0
/-- The numbers of a state's dots, within their kinds. -/
def StR (a : List Dot) (l : List Sib) : Prop := (∀ d ∈ a, 0 ≤ d.n ∧ 0 ≤ d.a ∧ d.a ≤ 4294967295) ∧ ∀ x ∈ l, 0 ≤ x.d.n ∧ 0 ≤ x.d.a ∧ x.d.a ≤ 4294967295
theorem encT_yes {a : List Dot} {l : List Sib} (h : staB a l = true) : encT a l = ⟨(encS a l).toArray⟩ ∧ encE a l = 0 := by rw [encT, encE, if_pos h, if_pos h]; exact ⟨rfl, rfl⟩
theorem encT_no {a : List Dot} {l : List Sib} (h : staB a l = false) : encT a l = ⟨#[]⟩ ∧ encE a l = 110 := by rw [encT, encE, h]; exact ⟨rfl, rfl⟩
theorem szL (L : List UInt8) : (⟨L.toArray⟩ : ByteArray).size = L.length := by simp [ByteArray.size]
def absB (a : List Dot) (l : List Sib) : Bool := decide (a.length = 0) && decide (l.length = 0)
end Go.Proofs.Ytljfigikkajlnaa
namespace Go.Proofs.Ytljfigikkajlnaa
open Go.RowKit Go.Lib
set_option linter.unusedVariables false
set_option linter.unusedSimpArgs false
def placeN (key : ByteArray) : Nat := (placeI key).toNat
theorem placeN_lt (key : ByteArray) : placeN key < 4096 ∧ ((placeN key : Nat) : Int) = placeI key := by
 have h1 := bv_lt (shaB (placeL key) 0)
 have h2 := bv_lt (shaB (placeL key) 1)
 unfold placeN placeI
 omega
def packK (key : ByteArray) : ByteArray := prefS (placeN key) ++ key
def packE (key : ByteArray) (a : List Dot) (l : List Sib) : Int := if chkE key a l = 0 then (if absB a l then 110 else 0) else chkE key a l
def packC (key : ByteArray) (a : List Dot) (l : List Sib) : ByteArray × ByteArray := if packE key a l = 0 then (packK key, ⟨(encS a l).toArray⟩) else (⟨#[]⟩, ⟨#[]⟩)
theorem chk_cases {key : ByteArray} {a : List Dot} {l : List Sib} (h : chkE key a l = 0) : keyB key = true ∧ staB a l = true ∧ (encS a l).length ≤ 280 := by
 unfold chkE at h
 by_cases h1 : keyB key = true
 · by_cases h2 : staB a l = true
   · rw [h1, h2] at h
     simp only [Bool.true_eq_false, if_false] at h
     split at h
     · omega
     · exact ⟨h1, h2, by omega⟩
   · have h2' : staB a l = false := by simpa using h2
     rw [h1, h2'] at h
     simp at h
 · have h1' : keyB key = false := by simpa using h1
   rw [h1'] at h
   simp at h
end Go.Proofs.Ytljfigikkajlnaa
namespace Go.Proofs.Ytljfigikkajlnaa
open Go.RowKit Go.Lib
set_option linter.unusedVariables false
set_option linter.unusedSimpArgs false
/-- The document's Reader in block g. -/
def Rdd (w : World) (g : Nat) (b : ByteArray) (s : RS) : Prop := GR.Blk w g 116 #[.string b, .int .i64 s.n, .int .i64 s.e] ∧ s.n ≤ b.data.toList.length
theorem Rdd.below {w w' : World} {g : Nat} {b : ByteArray} {s : RS} (h : Rdd w g b s) (hb : Below w.heap.size w w') : Rdd w' g b s := ⟨h.1.below hb h.1.lt, h.2⟩
theorem Rdd.drewN {w : World} {g : Nat} {b : ByteArray} {s : RS} (h : Rdd w g b s) (n : Nat) : Rdd (w.drewN n) g b s := ⟨h.1.drewN n, h.2⟩
end Go.Proofs.Ytljfigikkajlnaa
namespace Go.Proofs.Ytljfigikkajlnaa
open Go.RowKit Go.Lib
set_option linter.unusedVariables false
set_option linter.unusedSimpArgs false
theorem Rdd.far {w : World} {g : Nat} {b : ByteArray} {s : RS} {p : Addr} (h : Rdd w g b s) (hp : g ≠ p.block) (u : Value) : Rdd (w.setCell p u) g b s := ⟨h.1.far hp u, h.2⟩
/-- What stands while the document takes a state. -/
structure DJ (w0 w : World) (R g S : Nat) (b : ByteArray) (st : RS) (v vs : Value) (a : List Dot) (l : List Sib) : Prop where
 r : GR.Blk w R 25 #[.slice none 0 0, .slice none 0 0]
 s : GR.Blk w S 25 #[v, vs]
 rd : Rdd w g b st
 d : GR.Own dotK w w0.heap.size v a
 l : GR.Own sibK w w0.heap.size vs l
 ne : R < S
 lr : w0.heap.size ≤ R
 gb : w0.grownBy w (some g)
theorem DJ.put {w0 w w' : World} {R g S : Nat} {b : ByteArray} {st : RS} {v vs v' : Value} {a : List Dot} {l l' : List Sib} (h : DJ w0 w R g S b st v vs a l) (ho : GR.Own sibK w' w0.heap.size v' l') (hg : w.grownBy w' vs.ownBlock) : DJ w0 (w'.setCell ⟨S, 1, none⟩ v') R g S b st v v' a l' := by
 have r1 := h.r.grown hg (fun e => GR.own_blk_ne h.l h.r (by decide) e.symm)
 have s1 := h.s.grown hg (fun e => GR.own_blk_ne h.l h.s (by decide) e.symm)
 have d1 := h.d.grown hg (own_apart h.d h.l (by decide))
 have g1 : Rdd w' g b st := ⟨h.rd.1.grown hg (fun e => GR.own_blk_ne h.l h.rd.1 (by decide) e.symm), h.rd.2⟩
 exact ⟨r1.far (show R ≠ S from Nat.ne_of_lt h.ne) _, s1.set_ 1 _, g1.far (show g ≠ S from fun e => h.rd.1.ne_ h.s (by decide) e) _,
  own_farI d1 s1 1 _ (by decide), own_farI ho s1 1 _ (by decide), h.ne, h.lr,
  GR.grown_step (GR.grown_step h.gb hg (.inr (fun k hk => (h.l.lt k hk).1))) (grown_set (g := S) 1 v') (.inr (fun k e => by injection e with e; subst e; exact Nat.le_trans h.lr (Nat.le_of_lt h.ne)))⟩
end Go.Proofs.Ytljfigikkajlnaa
namespace Go.Proofs.Ytljfigikkajlnaa
open Go.RowKit Go.Lib
set_option linter.unusedVariables false
set_option linter.unusedSimpArgs false
def n2 : List UInt8 → Nat
 | [x, y] => x.toNat * 256 + y.toNat
 | _ => 0
theorem or256 (x y : UInt8) : bits .or .u64 ((x.toNat : Int) * 256) (y.toNat : Int) = ((x.toNat * 256 + y.toNat : Nat) : Int) := by
 have hx := x.toNat_lt
 have hy := y.toNat_lt
 have h := bits_or_u64_nat (x.toNat * 256) y.toNat (by omega) (by omega)
 have e : x.toNat * 256 ||| y.toNat = x.toNat * 256 + y.toNat := by
  have h1 := Nat.shiftLeft_add_eq_or_of_lt (show y.toNat < 2 ^ 8 by omega) x.toNat
  rw [Nat.shiftLeft_eq] at h1
  exact h1.symm
 rw [e] at h
 rw [← h]
 congr 1
set_option maxRecDepth 100000 in
theorem high2_any (x y : UInt8) (w : World) :
 Calls Try.prog 92 #[.string ⟨#[x, y]⟩] w fun e w' => e = .returned (.int .u64 (x.toNat * 256 + y.toNat : Nat)) ∧ w = w' := by
 have hx := x.toNat_lt
 have hy := y.toNat_lt
 have e1 : bits .or .u64 0 (x.toNat : Int) = (x.toNat : Int) := by
  have := bits_or_u64_nat 0 x.toNat (by omega) (by omega)
  simpa using this
 have e2 := or256 x y
 have e3 : IntKind.u64.wrap (x.toNat : Int) = (x.toNat : Int) := IntWalk.u64_in _ (by omega)
 have e4 : IntKind.u64.wrap (y.toNat : Int) = (y.toNat : Int) := IntWalk.u64_in _ (by omega)
 have e5 : IntKind.u64.wrap ((x.toNat : Int) * 256) = (x.toNat : Int) * 256 := IntWalk.u64_in _ (by omega)
 go_enter Try.func92, Try.ntmps92
 go_wp2
 go_loopw [3, 7] (fun v i w' => ∃ k : Nat, k ≤ 2 ∧ i = .int .i64 k ∧ v = .int .u64 (if k = 0 then 0 else if k = 1 then (x.toNat : Int) else ((x.toNat * 256 + y.toNat : Nat) : Int)) ∧ w' = w) (fun _ i _ => 2 - (intOf i).toNat)
 case atStart => exact ⟨0, by omega, rfl, rfl, rfl⟩
 case round =>
  obtain ⟨k, hk, rfl, rfl, rfl⟩ := hrel
  have hk3 : k = 0 ∨ k = 1 ∨ k = 2 := by omega
  rcases hk3 with rfl | rfl | rfl
  · go_wp2
    go_roundw
    case rel => exact ⟨1, by omega, rfl, by
     show Value.int .u64 (bits .or .u64 0 (IntKind.u64.wrap (x.toNat : Int))) = Value.int .u64 (x.toNat : Int)
     rw [e3, e1], by first | rfl | trivial⟩
    case measure => simp [intOf]
  · go_wp2
    go_roundw
    case rel => exact ⟨2, by omega, rfl, by
     show Value.int .u64 _ = Value.int .u64 ((x.toNat * 256 + y.toNat : Nat) : Int)
     congr 1
     first | exact e2 | (show bits .or .u64 ((x.toNat : Int) * 256) (IntKind.u64.wrap (y.toNat : Int)) = _; rw [e4, e2]), by first | rfl | trivial⟩
    case measure => simp [intOf]
  · go_wp2
    go_ret
    exact ⟨rfl, rfl⟩
theorem high0_any (w : World) : Calls Try.prog 92 #[.string ⟨#[]⟩] w fun e w' => e = .returned (.int .u64 0) ∧ w = w' := high_any [] 0 rfl (by simp) w
theorem rfixed2_any (g : Nat) (b : ByteArray) (s : RS) (w : World) (h : Rdr w g b s) (hb : b.size ≤ 140737488355328) :
 Calls Try.prog 41 #[.pointer (some ⟨g, 0, none⟩), .int .i64 2] w fun e w' => e = .returned (.int .u64 (n2 (rdR b.data.toList 2 s).1)) ∧ Rdr w' g b (rdR b.data.toList 2 s).2 ∧ w.grownBy w' (some g) := by
 have H := Lib.hid h
 have hf := fun hs => (rdR_form (b := b.data.toList) (k := 2) (s := s) h.2 hs)
 clear h
 obtain ⟨l, hl⟩ : ∃ l, l = (rdR b.data.toList 2 s).1 := ⟨_, rfl⟩
 have hlc : l = [] ∨ ∃ x y, l = [x, y] := by
  by_cases h0 : (rdR b.data.toList 2 s).2.e = 0
  · have h2 := (hf h0).2.1
    rw [← hl] at h2
    match l, h2 with
    | [x, y], _ => exact .inr ⟨x, y, rfl⟩
  · left
    rw [hl]
    unfold rdR at h0 ⊢
    split
    · rename_i h1
      split
      · rfl
      · rename_i h2; rw [if_pos h1, if_neg h2] at h0; exact absurd rfl h0
    · rfl
 clear hf
 rw [← hl]
 have HL := Lib.hid hl
 clear hl
 go_enter Try.func41, Try.ntmps41
 go_wp2_with fail
 refine (rtake_any g b 2 s _ H.out hb (by omega)).mono ?_
 rintro e w1 ⟨rfl, h1, g1⟩
 have H1 := Lib.hid h1
 have G1 := Lib.hid g1
 clear h1 g1
 rw [← HL.out]
 rcases hlc with rfl | ⟨x, y, rfl⟩
 · skip
   go_wp2_with fail
   refine (high0_any _).mono ?_
   rintro e w2 ⟨rfl, rfl⟩
   go_wp2
   go_ret
   exact ⟨rfl, H1.out, G1.out⟩
 · skip
   go_wp2_with fail
   refine (high2_any x y _).mono ?_
   rintro e w2 ⟨rfl, rfl⟩
   go_wp2
   go_ret
   exact ⟨rfl, H1.out, G1.out⟩
theorem rleft_any (g : Nat) (b : ByteArray) (s : RS) (w : World) (h : Rdr w g b s) (hb : b.size ≤ 140737488355328) :
 Calls Try.prog 43 #[.pointer (some ⟨g, 0, none⟩)] w fun e w' => e = .returned (.int .i64 ((b.size - s.n : Nat) : Int)) ∧ Drawn w w' := by
 have c0 : w.cell? ⟨g, 0, none⟩ = some (.string b) := h.1.cell 0
 have c1 : w.cell? ⟨g, 1, none⟩ = some (.int .i64 s.n) := h.1.cell 1
 have hn : s.n ≤ b.size := h.2
 have l2 : IntKind.i64.wrap ((b.size : Int) - (s.n : Int)) = ((b.size - s.n : Nat) : Int) := by rw [IntWalk.i64_in _ (by omega)]; omega
 clear h
 go_enter Try.func43, Try.ntmps43
 go_wp2
 go_quiet (fail)
 go_wp2
 go_ret
 exact ⟨rfl, ⟨_, rfl⟩⟩
theorem rraw_any (g : Nat) (b : ByteArray) (k : Nat) (s : RS) (w : World) (h : Rdr w g b s) (hb : b.size ≤ 140737488355328) (hk : k ≤ 140737488355328) :
 Calls Try.prog 42 #[.pointer (some ⟨g, 0, none⟩), .int .i64 k] w fun e w' => e = .returned (.string ⟨(rdR b.data.toList k s).1.toArray⟩) ∧ Rdr w' g b (rdR b.data.toList k s).2 ∧ w.grownBy w' (some g) := by
 have H := Lib.hid h
 clear h
 have d1 : decide ((k : Int) < 0) = false := by simp
 go_enter Try.func42, Try.ntmps42
 go_wp2_with fail
 refine (rtake_any g b k s _ H.out hb hk).mono ?_
 rintro e w1 ⟨rfl, h1, g1⟩
 have H1 := Lib.hid h1
 have G1 := Lib.hid g1
 clear h1 g1
 go_wp2
 go_ret
 exact ⟨rfl, H1.out, G1.out⟩
end Go.Proofs.Ytljfigikkajlnaa
namespace Go.Proofs.Ytljfigikkajlnaa
open Go.RowKit Go.Lib Go.Proofs.YtljfigikkajlnaaW.PrintWords
set_option linter.unusedVariables false
set_option linter.unusedSimpArgs false
theorem eqCell (d : Nat) (w : World) (a b a' b' : ByteArray) :
 (Op.equalIn (d + 2) 48 (.agg #[.string a, .string b]) (.agg #[.string a', .string b'])).run Try.prog w = .ok (decide (a = a') && decide (b = b')) w := by
 have : (decide (a = a') && decide (b = b')) = ((a.toList == a'.toList) && (b.toList == b'.toList)) := by rw [str_eq, str_eq]
 rw [this]
 refine eqA_of Try.underlying48 (by kernel_rfl) ?_
 refine eqf_cons (by rfl) (by go_simp; rfl) (by go_simp; rfl) (by go_simp) ?_
 exact eqf_last (by rfl) (by go_simp; rfl) (by go_simp; rfl) (by go_simp)
attribute [local go_sem high] eqCell
def kd (k : ByteArray) : ByteArray := k.extract 2 k.size
theorem kdL (k : ByteArray) : (kd k).data.toList = k.data.toList.drop 2 := extract_to_end k 2
def unpB (k v : ByteArray) : Bool := decide (2 ≤ k.size) && decB v.data.toList && decide (packE (kd k) (decA v.data.toList) (decL v.data.toList) = 0) && decide (packK (kd k) = k)
def unpK (k v : ByteArray) : ByteArray := if unpB k v then kd k else ⟨#[]⟩
def unpA (k v : ByteArray) : List Dot := if unpB k v then decA v.data.toList else []
def unpL (k v : ByteArray) : List Sib := if unpB k v then decL v.data.toList else []
def unpE (k v : ByteArray) : Int := if unpB k v then 0 else 4
theorem unp_no {k v : ByteArray} (h : unpB k v = false) : unpK k v = ⟨#[]⟩ ∧ unpA k v = [] ∧ unpL k v = [] ∧ unpE k v = 4 := by simp [unpK, unpA, unpL, unpE, h]
theorem unp_yes {k v : ByteArray} (h : unpB k v = true) : unpK k v = kd k ∧ unpA k v = decA v.data.toList ∧ unpL k v = decL v.data.toList ∧ unpE k v = 0 := by simp [unpK, unpA, unpL, unpE, h]
theorem dec_lens (b : List UInt8) : (decA b).length ≤ 64 ∧ (decL b).length ≤ 64 := by
 unfold decA decL
 split
 · exact ⟨takeV_len _ _, by rw [srL_len]; exact takeS_len _⟩
 · simp
theorem decE_cases (b : List UInt8) : (decB b = true ∧ decE b = 0) ∨ (decB b = false ∧ decE b = 110) := by
 rcases h : decB b with _ | _
 · exact .inr ⟨rfl, by simp [decE, h]⟩
 · exact .inl ⟨rfl, by simp [decE, h]⟩
theorem unp_dec {k v : ByteArray} (h : decB v.data.toList = false) : unpB k v = false := by simp [unpB, h]
end Go.Proofs.Ytljfigikkajlnaa
