/- DERIVED. Sketches, plainly: what is peeled; sums of items. -/
import Derived.Test.YtpklkjekkbpeoaaSkPl
namespace Go.Proofs.Ytpklkjekkbpeoaa
set_option linter.unusedVariables false
set_option linter.unusedSimpArgs false

abbrev It := BitVec 64
/-- Items laid over cells one by one. -/
def layAll (b : BitVec 16) (L : List Cel) (l : List It) : List Cel := l.foldl (fun L x => layC x b L) L
@[simp] theorem layAll_nil (b : BitVec 16) (L : List Cel) : layAll b L [] = L := rfl
theorem layAll_snoc (b : BitVec 16) (L : List Cel) (l : List It) (x : It) : layAll b L (l ++ [x]) = layC x b (layAll b L l) := by simp [layAll]
theorem layAll_cons (b : BitVec 16) (L : List Cel) (l : List It) (x : It) : layAll b L (x :: l) = layAll b (layC x b L) l := rfl
@[simp] theorem layAll_length (b : BitVec 16) (L : List Cel) (l : List It) : (layAll b L l).length = L.length := by
  induction l generalizing L with
  | nil => rfl
  | cons x l ih => rw [layAll_cons, ih, layC_length]
theorem layAll_out (b c : BitVec 16) (L : List Cel) (l : List It) (y : It) : layAll b (layC y c L) l = layC y c (layAll b L l) := by
  induction l generalizing L with
  | nil => rfl
  | cons x l ih => rw [layAll_cons, layAll_cons, layC_comm, ih]
theorem layAll_add (b : BitVec 16) (L M : List Cel) (l : List It) (h : L.length = M.length) : layAll b (addL L M) l = addL L (layAll b M l) := by
  induction l generalizing M with
  | nil => rfl
  | cons x l ih =>
    have e : layC x b (addL L M) = addL L (layC x b M) := by
      rw [layC_add, layC_add, addL_length _ _ h, addL_assoc, h]
    rw [layAll_cons, layAll_cons, e, ih _ (by simpa using h)]
theorem layAll_perm {b : BitVec 16} {l m : List It} (h : l.Perm m) : ∀ L : List Cel, layAll b L l = layAll b L m := by
  induction h with
  | nil => exact fun _ => rfl
  | cons x _ ih => intro L; rw [layAll_cons, layAll_cons, ih]
  | swap x y l => intro L; rw [layAll_cons, layAll_cons, layAll_cons, layAll_cons, layC_comm]
  | trans _ _ ih1 ih2 => intro L; rw [ih1, ih2]
theorem layAll_back (b : BitVec 16) (L : List Cel) (l : List It) : layAll (-b) (layAll b L l) l = L := by
  induction l generalizing L with
  | nil => rfl
  | cons x l ih => rw [layAll_cons, layAll_cons, layAll_out, ih, layC_undo]
theorem neg_neg16 (b : BitVec 16) : - -b = b := by simp
theorem addL_right {L M R : List Cel} (h1 : L.length = R.length) (h2 : M.length = R.length) (h : addL L R = addL M R) : L = M := by
  have e := congrArg (fun z => addL z (negL R)) h
  simp only [addL_assoc, addL_neg] at e
  rwa [← h1, addL_zero, h1, ← h2, addL_zero] at e

/-- Does the cell i hold one item alone? -/
def pureB (L : List Cel) (i : Nat) : Bool :=
  let c := L.getD i zc
  (c.n == 1 || c.n == -1) && c.h == ckV c.x && isP L.length 3 c.x i
def firstP (L : List Cel) : Option Nat := (List.range L.length).find? (pureB L)
theorem firstP_none {L : List Cel} (h : ∀ j, j < L.length → pureB L j = false) : firstP L = none := by
  unfold firstP
  rw [List.find?_eq_none]
  intro j hj
  rw [h j (List.mem_range.1 hj)]
  simp
theorem firstP_some {L : List Cel} {i : Nat} (hi : i < L.length) (hp : pureB L i = true) (h : ∀ j, j < i → pureB L j = false) : firstP L = some i := by
  unfold firstP
  rw [List.find?_eq_some_iff_getElem]
  refine ⟨hp, i, by simpa using hi, by simp, fun j hj => ?_⟩
  simp [h j hj]
/-- What is peeled in so many rounds. -/
def peelN : Nat → List Cel → List It → List It → List Cel × List It × List It
  | 0, L, m, l => (L, m, l)
  | k + 1, L, m, l => match firstP L with
    | none => (L, m, l)
    | some i => if (L.getD i zc).n = 1 then peelN k (layC (L.getD i zc).x (-1) L) (m ++ [(L.getD i zc).x]) l else peelN k (layC (L.getD i zc).x 1 L) m (l ++ [(L.getD i zc).x])
theorem peelN_stop {k : Nat} {L : List Cel} {m l : List It} (h : firstP L = none) : peelN k L m l = (L, m, l) := by
  cases k with
  | zero => rfl
  | succ k => simp only [peelN, h]
theorem peelN_more {k : Nat} {L : List Cel} {m l : List It} {i : Nat} (h : firstP L = some i) (hn : (L.getD i zc).n = 1) : peelN (k + 1) L m l = peelN k (layC (L.getD i zc).x (-1) L) (m ++ [(L.getD i zc).x]) l := by
  simp only [peelN, h, if_pos hn]
theorem peelN_less {k : Nat} {L : List Cel} {m l : List It} {i : Nat} (h : firstP L = some i) (hn : (L.getD i zc).n ≠ 1) : peelN (k + 1) L m l = peelN k (layC (L.getD i zc).x 1 L) m (l ++ [(L.getD i zc).x]) := by
  simp only [peelN, h, if_neg hn]
/-- Whatever is peeled: the rest and what came out are what was there. -/
theorem peelN_says (k : Nat) : ∀ (L : List Cel) (m l : List It), (peelN k L m l).1.length = L.length ∧ (peelN k L m l).2.1.length + (peelN k L m l).2.2.length ≤ m.length + l.length + k ∧
    layAll (-1) (layAll 1 (peelN k L m l).1 (peelN k L m l).2.1) (peelN k L m l).2.2 = layAll (-1) (layAll 1 L m) l := by
  induction k with
  | zero => intro L m l; exact ⟨rfl, Nat.le_refl _, rfl⟩
  | succ k ih =>
    intro L m l
    rcases h : firstP L with _ | i
    · rw [peelN_stop h]
      exact ⟨rfl, by simp, rfl⟩
    · by_cases hn : (L.getD i zc).n = 1
      · rw [peelN_more h hn]
        obtain ⟨h1, h2, h3⟩ := ih (layC (L.getD i zc).x (-1) L) (m ++ [(L.getD i zc).x]) l
        refine ⟨by rw [h1, layC_length], by simp only [List.length_append, List.length_cons, List.length_nil] at h2; omega, h3.trans ?_⟩
        have := layC_undo (L.getD i zc).x (-1) L
        rw [neg_neg16] at this
        rw [layAll_snoc, ← layAll_out 1 1, this]
      · rw [peelN_less h hn]
        obtain ⟨h1, h2, h3⟩ := ih (layC (L.getD i zc).x 1 L) m (l ++ [(L.getD i zc).x])
        refine ⟨by rw [h1, layC_length], by simp only [List.length_append, List.length_cons, List.length_nil] at h2; omega, h3.trans ?_⟩
        have := layC_undo (L.getD i zc).x 1 L
        rw [layAll_snoc, ← layAll_out (-1) (-1), ← layAll_out 1 (-1), this]

theorem zL_getD (n i : Nat) : (zL n).getD i zc = zc := by
  simp only [zL, List.getD_eq_getElem?_getD, List.getElem?_replicate]
  split <;> rfl
theorem zL_length (n : Nat) : (zL n).length = n := List.length_replicate
theorem pure_zero (n i : Nat) : pureB (zL n) i = false := by
  unfold pureB
  rw [zL_getD]
  simp [zc]
theorem peel_zero (k n : Nat) : peelN k (zL n) [] [] = (zL n, [], []) := peelN_stop (firstP_none fun j _ => pure_zero n j)
theorem one_getD (n : Nat) (x : It) (b : BitVec 16) (i : Nat) (hi : i < n) : (layC x b (zL n)).getD i zc = if isP n 3 x i then itC x b else zc := by
  have hl : i < (layC x b (zL n)).length := by simpa [zL] using hi
  have e := layM_get 3 x b (zL n) i (by simpa [zL] using hi)
  rw [List.getD_eq_getElem?_getD, List.getElem?_eq_getElem hl, Option.getD_some]
  refine e.trans ?_
  have h0 : (zL n)[i]'(by simpa [zL] using hi) = zc := by simp [zL]
  rw [h0, Cel.zero_add]
  simp only [zL_length]
theorem pure_one (n : Nat) (x : It) (b : BitVec 16) (hb : b = 1 ∨ b = -1) (i : Nat) (hi : i < n) : pureB (layC x b (zL n)) i = isP n 3 x i := by
  unfold pureB
  rw [one_getD n x b i hi, layC_length, zL_length]
  rcases h : isP n 3 x i with _ | _
  · simp [zc]
  · rcases hb with rfl | rfl <;> simp [itC, h]
theorem first_one (n : Nat) (h3 : 3 ≤ n) (x : It) (b : BitVec 16) (hb : b = 1 ∨ b = -1) : firstP (layC x b (zL n)) = some (plc n x 0) := by
  have h0 := plc_lt x 0 h3 (by omega)
  refine firstP_some (by simpa [zL] using h0) ?_ fun j hj => ?_
  · rw [pure_one n x b hb _ h0]
    exact isP_iff.2 ⟨0, by omega, rfl⟩
  · rw [pure_one n x b hb _ (by omega)]
    rw [Bool.eq_false_iff]
    intro hp
    obtain ⟨q, hq, he⟩ := isP_iff.1 hp
    rcases Nat.eq_zero_or_pos q with rfl | hq0
    · omega
    · have := plc_ne x h3 hq0
      omega
theorem one_cell (n : Nat) (h3 : 3 ≤ n) (x : It) (b : BitVec 16) : (layC x b (zL n)).getD (plc n x 0) zc = itC x b := by
  rw [one_getD n x b _ (plc_lt x 0 h3 (by omega)), if_pos (isP_iff.2 ⟨0, by omega, rfl⟩)]
theorem peel_one (k n : Nat) (h3 : 3 ≤ n) (x : It) : peelN (k + 1) (layC x 1 (zL n)) [] [] = (zL n, [x], []) := by
  have hc := one_cell n h3 x 1
  rw [peelN_more (first_one n h3 x 1 (.inl rfl)) (by rw [hc]; rfl), hc]
  have : layC x (-1) (layC x 1 (zL n)) = zL n := layC_undo x 1 (zL n)
  show peelN k (layC x (-1) (layC x 1 (zL n))) ([] ++ [x]) [] = _
  rw [this, peelN_stop (firstP_none fun j _ => pure_zero n j)]
  rfl
theorem peel_less (k n : Nat) (h3 : 3 ≤ n) (x : It) : peelN (k + 1) (layC x (-1) (zL n)) [] [] = (zL n, [], [x]) := by
  have hc := one_cell n h3 x (-1)
  rw [peelN_less (first_one n h3 x (-1) (.inr rfl)) (by rw [hc]; show (-1 : BitVec 16) ≠ 1; decide), hc]
  have : layC x (- -1) (layC x (-1) (zL n)) = zL n := layC_undo x (-1) (zL n)
  show peelN k (layC x (- -1) (layC x (-1) (zL n))) [] ([] ++ [x]) = _
  rw [this, peelN_stop (firstP_none fun j _ => pure_zero n j)]
  rfl
def zeroB (L : List Cel) : Bool := L.all fun c => c == zc
theorem zeroB_zL (n : Nat) : zeroB (zL n) = true := by simp [zeroB, zL]
theorem zeroB_iff {L : List Cel} : zeroB L = true ↔ L = zL L.length := by
  simp only [zeroB, List.all_eq_true, beq_iff_eq, zL]
  exact (List.eq_replicate_iff (n := L.length) (a := zc)).symm.trans ⟨fun h => h, fun h => h⟩ |>.symm.symm |> fun h => ⟨fun hh => h.1 ⟨rfl, hh⟩, fun hh => (h.2 hh).2⟩
/-- Nothing is left just if what came out makes what was there. -/
theorem whole_iff (k : Nat) (L : List Cel) : zeroB (peelN k L [] []).1 = true ↔ layAll (-1) (layAll 1 (zL L.length) (peelN k L [] []).2.1) (peelN k L [] []).2.2 = L := by
  obtain ⟨h1, _, h3⟩ := peelN_says k L [] []
  simp only [layAll_nil] at h3
  generalize peelN k L [] [] = p at *
  obtain ⟨R, m, l⟩ := p
  dsimp only at *
  have hR : layAll (-1) (layAll 1 R m) l = addL R (layAll (-1) (layAll 1 (zL L.length) m) l) := by
    rw [← layAll_add (-1) _ _ _ (by simp [h1, zL]), ← layAll_add 1 _ _ _ (by simp [h1, zL]), ← h1, addL_zero]
  rw [zeroB_iff, h1]
  constructor
  · intro hz
    rw [← h3, hz, layAll_length, layAll_length, zL_length]
  · intro hz
    rw [hz, h3] at hR
    refine addL_right (R := L) h1 (by simp [zL]) ?_
    rw [← hR, addL_comm, addL_zero]
end Go.Proofs.Ytpklkjekkbpeoaa
