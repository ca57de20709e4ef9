/- Draws of constraints. -/
import Derived.Test.YtccjbipmlpnhkaaU
import Derived.Test.YtccjbipmlpnhkaaH
namespace Go.Proofs.Ytccjbipmlpnhkaa
set_option maxRecDepth 100000
open Go.RowKit Go.ChangeShapes Go.WideShapes Go.ChangeAt
set_option linter.unusedSimpArgs false
set_option linter.unusedVariables false

theorem L3.fresh (W : World) (v0 v1 v2 : Value) (t : TypeId) : L3 (W.alloc (.cells #[v0, v1, v2] t)) W.heap.size v0 v1 v2 := ⟨by simp [go_sem], by simp [go_sem], by simp [go_sem], by simp [go_sem], by simp [go_sem], by simp [go_sem]⟩
theorem L3.not_row {w : World} {r B q n c : Nat} {xs : List Int} {v0 v1 : Value} {s : Bool} (h : L3 w r v0 v1 (.bool s)) (k : Row64 w B q n c xs) (hn : 3 ≤ n) : r ≠ q := fun e => by
  have h1 := k.cellAt (k := 2) (by omega)
  rw [← e, h.c2] at h1
  cases h1
theorem J64_half {b : Int} (h : J64 b) : J64 (b.tdiv 2) := by
  unfold J64 at *
  rcases Int.le_total 0 b with hb | hb
  · rw [Int.tdiv_eq_ediv_of_nonneg hb]; omega
  · have : b.tdiv 2 = -((-b) / 2) := by
      rw [← Int.tdiv_eq_ediv_of_nonneg (by omega : 0 ≤ -b), Int.neg_tdiv]; omega
    rw [this]; omega
theorem iLinSum_y {A A' : Option Addr} {n0 n0' c c' : Nat} {xs ys : List Int} (b b' : Int) (s s' : Bool) (m n : Int) {w : World} (h : Ints w A n0 xs) (h' : Ints w A' n0' ys) (hk : linSumOk m xs b n ys b' = true) :
    Calls Try.prog 64 #[.agg #[.slice A n0 c, .int .i64 b, .bool s], .int .i64 m, .agg #[.slice A' n0' c', .int .i64 b', .bool s'], .int .i64 n] w
      fun e w' => ∃ g cap, e = .returned (.tuple #[.agg #[.slice (some ⟨g, 0, none⟩) 4 cap, .int .i64 (m * b + n * b'), .bool (strictOr m n s s')], .bool true]) ∧ (Ints w' (some ⟨g, 0, none⟩) 4 (combo m xs n ys) ∧ Free w' g) ∧ 4 ≤ cap ∧ w.heap.size ≤ g ∧ Below w.heap.size w w' := by
  obtain ⟨hx, hy, ⟨hm1, hm2⟩, ⟨hn1, hn2⟩, hfin⟩ := linSumOk_iff.1 hk
  exact iLinSum_yes b b' s s' m n h h' hx hy hm1 hm2 hn1 hn2 hfin
end Go.Proofs.Ytccjbipmlpnhkaa
