/- Sums of constraints. -/
import Derived.Test.YtkbohgabifpceaaDoorE
namespace Go.Proofs.YtkbohgabifpceaaDoor
set_option maxRecDepth 100000
open Go.RowKit Go.ChangeShapes Go.WideShapes Go.ChangeAt
set_option linter.unusedSimpArgs false
set_option linter.unusedVariables false

/-- what follows of two, each taken so many times -/
def combo (m : Int) (xs : List Int) (n : Int) (ys : List Int) : List Int := List.zipWith (fun x y => m * x + n * y) xs ys
def strictOr (m n : Int) (s s' : Bool) : Bool := (decide (0 < m) && s) || (decide (0 < n) && s')
def linSumOk (m : Int) (xs : List Int) (b : Int) (n : Int) (ys : List Int) (b' : Int) : Bool :=
  linOk xs b && (linOk ys b' && (within m 0 1000000 && (within n 0 1000000 && linOk (combo m xs n ys) (m * b + n * b'))))
theorem combo_len {m n : Int} {xs ys : List Int} (h : xs.length = 4) (h' : ys.length = 4) : (combo m xs n ys).length = 4 := by simp [combo, h, h']
theorem combo_getD {m n : Int} {xs ys : List Int} {k : Nat} (h : k < xs.length) (h' : k < ys.length) : (combo m xs n ys).getD k 0 = m * xs.getD k 0 + n * ys.getD k 0 := by
  simp [combo, List.getD_eq_getElem?_getD, List.getElem?_zipWith, List.getElem?_eq_getElem h, List.getElem?_eq_getElem h']
theorem mul6 {m x : Int} (h1 : 0 ≤ m) (h2 : m ≤ 1000000) (h3 : -1000000 ≤ x) (h4 : x ≤ 1000000) : -1000000000000 ≤ m * x ∧ m * x ≤ 1000000000000 := by
  have e1 : m * x ≤ m * 1000000 := Int.mul_le_mul_of_nonneg_left h4 h1
  have e2 : m * (-1000000) ≤ m * x := Int.mul_le_mul_of_nonneg_left h3 h1
  omega
theorem combo_rng {m n : Int} {xs ys : List Int} (hx : OkTo xs 4) (hy : OkTo ys 4) (hlx : xs.length = 4) (hly : ys.length = 4) (hm : 0 ≤ m ∧ m ≤ 1000000) (hn : 0 ≤ n ∧ n ≤ 1000000) (j : Nat) : J64 ((combo m xs n ys).getD j 0) := by
  rcases Nat.lt_or_ge j 4 with hj | hj
  · rw [combo_getD (by omega) (by omega)]
    obtain ⟨a1, a2⟩ := coefOk_iff.1 (hx j hj)
    obtain ⟨b1, b2⟩ := coefOk_iff.1 (hy j hj)
    have := mul6 hm.1 hm.2 a1 a2
    have := mul6 hn.1 hn.2 b1 b2
    unfold J64; omega
  · rw [List.getD_eq_getElem?_getD, List.getElem?_eq_none (by rw [combo_len hlx hly]; exact hj)]; simp [J64]
theorem strictOr_of {m n : Int} {s s' t : Bool} (h : ((decide (0 < m) && s) || (decide (0 < n) && s')) = t) : strictOr m n s s' = t := h
theorem Bld.startOf (w : World) (b : Int) (s : Bool) : Bld (w.alloc (.cells #[.slice none 0 0, .int .i64 b, .bool s] 34)) w.heap.size (.slice none 0 0) 0 [] b s := Bld.start w b s

theorem linSumOk_iff {m : Int} {xs : List Int} {b : Int} {n : Int} {ys : List Int} {b' : Int} : linSumOk m xs b n ys b' = true ↔ linOk xs b = true ∧ linOk ys b' = true ∧ (0 ≤ m ∧ m ≤ 1000000) ∧ (0 ≤ n ∧ n ≤ 1000000) ∧ linOk (combo m xs n ys) (m * b + n * b') = true := by
  simp only [linSumOk, Bool.and_eq_true, within_iff]
end Go.Proofs.YtkbohgabifpceaaDoor
