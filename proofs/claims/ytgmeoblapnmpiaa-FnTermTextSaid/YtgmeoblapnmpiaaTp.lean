/- Terms: how many, whether they are right, their texts: plain. -/
import Derived.Test.YtgmeoblapnmpiaaTm
import Derived.Test.YtgmeoblapnmpiaaNm
import Derived.Lib.Join
namespace Go.Proofs.Ytgmeoblapnmpiaa
set_option maxRecDepth 100000
open Go.RowKit Go.ChangeShapes Go.WideShapes Go.ChangeAt
set_option linter.unusedSimpArgs false
set_option linter.unusedVariables false

/-- of how many terms a term consists; 13 and more if it is none -/
def tsz : Nat → TermV → Nat
  | 0, _ => 13
  | f + 1, t => if (nameOk t.name && decide (t.kids.length ≤ 2)) = true then 1 + psum (tsz f) t.kids t.kids.length else 13
/-- a term, so deep at most -/
def tshape : Nat → TermV → Bool
  | 0, _ => false
  | f + 1, t => nameOk t.name && (decide (t.kids.length ≤ 2) && decide (∀ j, j < t.kids.length → tshape f (t.kids.getD j tm0) = true))
/-- how many terms there are in a term -/
def tmany : Nat → TermV → Nat
  | 0, _ => 1
  | f + 1, t => 1 + psum (tmany f) t.kids t.kids.length
theorem psum_congr {f g : TermV → Nat} {ks : List TermV} : ∀ {k : Nat}, (∀ j, j < k → f (ks.getD j tm0) = g (ks.getD j tm0)) → psum f ks k = psum g ks k
  | 0, _ => rfl
  | k + 1, h => by
    simp only [psum]
    rw [psum_congr (fun j hj => h j (by omega)), h k (by omega)]
theorem psum_le {f : TermV → Nat} {ks : List TermV} {m : Nat} : ∀ {k : Nat}, (∀ j, j < k → f (ks.getD j tm0) ≤ m) → psum f ks k ≤ k * m
  | 0, _ => by simp [psum]
  | k + 1, h => by
    have h1 := psum_le (f := f) (ks := ks) (m := m) (k := k) (fun j hj => h j (by omega))
    have h2 := h k (by omega)
    simp only [psum]
    rw [Nat.add_mul, Nat.one_mul]; omega
theorem tsz_le : ∀ (f : Nat) (t : TermV), tsz f t ≤ 13 * 3 ^ f
  | 0, _ => by simp [tsz]
  | f + 1, t => by
    have hp := Nat.pow_pos (n := f) (show 0 < 3 by omega)
    unfold tsz
    split
    · next h =>
      rw [Bool.and_eq_true, decide_eq_true_eq] at h
      have h1 := psum_le (f := tsz f) (ks := t.kids) (k := t.kids.length) (fun j _ => tsz_le f (t.kids.getD j tm0))
      have h2 := Nat.mul_le_mul_right (13 * 3 ^ f) h.2
      rw [Nat.pow_succ]; omega
    · rw [Nat.pow_succ]; omega
theorem tshape_iff {f : Nat} {t : TermV} : tshape (f + 1) t = true ↔ nameOk t.name = true ∧ t.kids.length ≤ 2 ∧ ∀ j, j < t.kids.length → tshape f (t.kids.getD j tm0) = true := by
  rw [tshape, Bool.and_eq_true, Bool.and_eq_true, decide_eq_true_eq, decide_eq_true_eq]
theorem tshape_many : ∀ {f : Nat} {t : TermV}, tshape f t = true → tsz f t = tmany f t
  | 0, _, h => by cases h
  | f + 1, t, h => by
    obtain ⟨h1, h2, h3⟩ := tshape_iff.1 h
    unfold tsz tmany
    rw [if_pos (by rw [h1, decide_eq_true h2]; rfl), psum_congr (fun j hj => tshape_many (h3 j hj))]
theorem tshape_no : ∀ {f : Nat} {t : TermV}, tshape f t = false → 13 ≤ tsz f t
  | 0, _, _ => by simp [tsz]
  | f + 1, t, h => by
    unfold tsz
    split
    · next h0 =>
      rw [Bool.and_eq_true, decide_eq_true_eq] at h0
      have hn : ¬ ∀ j, j < t.kids.length → tshape f (t.kids.getD j tm0) = true := fun hh => by
        rw [tshape_iff.2 ⟨h0.1, h0.2, hh⟩] at h; cases h
      rw [Classical.not_forall] at hn
      obtain ⟨j, hn⟩ := hn
      rw [Classical.not_imp] at hn
      obtain ⟨hj, hn⟩ := hn
      have h1 := tshape_no (f := f) (t := t.kids.getD j tm0) (by simpa using hn)
      have h2 := psum_at (tsz f) t.kids hj
      omega
    · omega
/-- a term -/
def termOk (t : TermV) : Bool := decide (tsz 4 t ≤ 12)
theorem termOk_both (t : TermV) : termOk t = (tshape 4 t && decide (tmany 4 t ≤ 12)) := by
  unfold termOk
  cases h : tshape 4 t
  · have := tshape_no h
    rw [Bool.false_and, decide_eq_false (by omega)]
  · rw [tshape_many h, Bool.true_and]
theorem termOk_shape {t : TermV} (h : termOk t = true) : tshape 4 t = true := by
  rw [termOk_both, Bool.and_eq_true] at h; exact h.1
theorem tmany_le {f : Nat} {t : TermV} (h : tshape f t = true) : tmany f t ≤ 13 * 3 ^ f := by
  rw [← tshape_many h]; exact tsz_le _ _
/-- the texts of the first k -/
def kidTexts (T : TermV → List UInt8) (ks : List TermV) (k : Nat) : List (List UInt8) := (ks.take k).map T
theorem kidTexts_succ {T : TermV → List UInt8} {ks : List TermV} {k : Nat} (hk : k < ks.length) : kidTexts T ks (k + 1) = kidTexts T ks k ++ [T (ks.getD k tm0)] := by
  unfold kidTexts
  rw [List.take_add_one, List.getElem?_eq_getElem hk, List.map_append, List.getD_eq_getElem?_getD, List.getElem?_eq_getElem hk]
  rfl
/-- a term's text -/
def termL : Nat → TermV → List UInt8
  | 0, t => t.name.data.toList
  | f + 1, t => if t.kids = [] then t.name.data.toList else t.name.data.toList ++ 40 :: (Lib.join (kidTexts (termL f) t.kids t.kids.length) [44] ++ [41])
/-- what was written behind the first k -/
def termAcc (T : TermV → List UInt8) (s : List UInt8) (ks : List TermV) : Nat → List UInt8
  | 0 => s
  | k + 1 => termAcc T s ks k ++ (if k = 0 then [40] else [44]) ++ T (ks.getD k tm0)
theorem termAcc_all {f : Nat} {t : TermV} (h : t.kids.length ≤ 2) : (if t.kids.length = 0 then termAcc (termL f) t.name.data.toList t.kids t.kids.length else termAcc (termL f) t.name.data.toList t.kids t.kids.length ++ [41]) = termL (f + 1) t := by
  obtain ⟨s, ks⟩ := t
  show (if ks.length = 0 then termAcc (termL f) s.data.toList ks ks.length else termAcc (termL f) s.data.toList ks ks.length ++ [41]) = if ks = [] then s.data.toList else _
  match ks, h with
  | [], _ => rfl
  | [a], _ =>
    show s.data.toList ++ [40] ++ termL f a ++ [41] = s.data.toList ++ 40 :: (Lib.join [termL f a] [44] ++ [41])
    rw [Lib.join_one]; simp only [List.append_assoc, List.cons_append, List.nil_append]
  | [a, b], _ =>
    show s.data.toList ++ [40] ++ termL f a ++ [44] ++ termL f b ++ [41] = s.data.toList ++ 40 :: (Lib.join [termL f a, termL f b] [44] ++ [41])
    rw [Lib.join_cons]
    simp [Lib.joinTail]
theorem name_len {s : ByteArray} (h : nameOk s = true) : 1 ≤ s.size ∧ s.size ≤ 2 := by
  by_cases hh : 1 ≤ s.size ∧ s.size ≤ 2
  · exact hh
  · rw [nameOk_len hh] at h; cases h
theorem termL_none (f : Nat) (s : ByteArray) : termL (f + 1) (.mk s []) = s.data.toList := rfl
theorem termL_one (f : Nat) (s : ByteArray) (a : TermV) : termL (f + 1) (.mk s [a]) = s.data.toList ++ 40 :: (termL f a ++ [41]) := by
  show s.data.toList ++ 40 :: (Lib.join [termL f a] [44] ++ [41]) = _
  rw [Lib.join_one]
theorem termL_two (f : Nat) (s : ByteArray) (a b : TermV) : termL (f + 1) (.mk s [a, b]) = s.data.toList ++ 40 :: (termL f a ++ 44 :: (termL f b ++ [41])) := by
  show s.data.toList ++ 40 :: (Lib.join [termL f a, termL f b] [44] ++ [41]) = _
  rw [Lib.join_cons]; simp [Lib.joinTail]
theorem termL_len : ∀ {f : Nat} {t : TermV}, tshape f t = true → (termL f t).length + 5 ≤ 7 * 3 ^ f
  | 0, _, h => by cases h
  | f + 1, .mk s ks, h => by
    obtain ⟨h1, h2, h3⟩ := tshape_iff.1 h
    have hn := name_len h1
    have hp := Nat.pow_pos (n := f) (show 0 < 3 by omega)
    have hs : s.data.toList.length = s.size := Array.length_toList
    replace hn : 1 ≤ s.size ∧ s.size ≤ 2 := hn
    rw [Nat.pow_succ]
    match ks, h2, h3 with
    | [], _, _ => rw [termL_none]; omega
    | [a], _, h3 =>
      have ha : (termL f a).length + 5 ≤ _ := termL_len (h3 0 (by show 0 < 1; omega))
      rw [termL_one]
      simp only [List.length_append, List.length_cons, List.length_nil]
      omega
    | [a, b], _, h3 =>
      have ha : (termL f a).length + 5 ≤ _ := termL_len (h3 0 (by show 0 < 2; omega))
      have hb : (termL f b).length + 5 ≤ _ := termL_len (h3 1 (by show 1 < 2; omega))
      rw [termL_two]
      simp only [List.length_append, List.length_cons, List.length_nil]
      omega
end Go.Proofs.Ytgmeoblapnmpiaa
