/- Plain laws of sums of constraints. -/
import Derived.Test.YtccjbipmlpnhkaaF
namespace Go.Proofs.Ytccjbipmlpnhkaa
set_option maxRecDepth 100000

theorem four {xs : List Int} (h : xs.length = 4) : ∃ a b c d, xs = [a, b, c, d] := by
  match xs, h with
  | [a, b, c, d], _ => exact ⟨a, b, c, d, rfl⟩
theorem linOk_four {xs : List Int} {b : Int} (h : linOk xs b = true) : ∃ x0 x1 x2 x3, xs = [x0, x1, x2, x3] ∧ coefOk x0 = true ∧ coefOk x1 = true ∧ coefOk x2 = true ∧ coefOk x3 = true ∧ coefOk b = true := by
  obtain ⟨hl, hb, hok⟩ := linOk_len h
  obtain ⟨a, b', c, d, rfl⟩ := four hl
  exact ⟨a, b', c, d, rfl, hok 0 (by omega), hok 1 (by omega), hok 2 (by omega), hok 3 (by omega), hb⟩
theorem linOk_mk {a b c d e : Int} : linOk [a, b, c, d] e = (coefOk a && (coefOk b && (coefOk c && (coefOk d && coefOk e)))) := by
  simp [linOk, Bool.and_assoc]
theorem combo_mk {m n a b c d a' b' c' d' : Int} : combo m [a, b, c, d] n [a', b', c', d'] = [m * a + n * a', m * b + n * b', m * c + n * c', m * d + n * d'] := rfl
theorem allZero_mk {a b c d : Int} : allZero [a, b, c, d] = (a == 0 && (b == 0 && (c == 0 && d == 0))) := by simp [allZero]

theorem zero_sum {xs ys : List Int} {b b' : Int} (h : linSumOk 0 xs b 0 ys b' = true) : linFree (combo 0 xs 0 ys) 0 false = true ∧ linBad (combo 0 xs 0 ys) 0 false = false := by
  obtain ⟨hx, hy, _⟩ := linSumOk_iff.1 h
  obtain ⟨x0, x1, x2, x3, rfl, _⟩ := linOk_four hx
  obtain ⟨y0, y1, y2, y3, rfl, _⟩ := linOk_four hy
  rw [combo_mk]
  simp only [Int.zero_mul, Int.add_zero]
  exact ⟨by decide, by decide⟩
theorem strict_zero (s s' : Bool) : strictOr 0 0 s s' = false := by simp [strictOr]

theorem twice_list {xs : List Int} {b m n : Int} (hx : linOk xs b = true) : combo (m + n) xs 0 [0, 0, 0, 0] = combo m xs n xs := by
  obtain ⟨x0, x1, x2, x3, rfl, _⟩ := linOk_four hx
  simp only [combo_mk, Int.add_mul, Int.zero_mul, Int.add_zero]
theorem twice_bound (m n b : Int) : (m + n) * b + 0 * 0 = m * b + n * b := by simp [Int.add_mul]
theorem twice_strict {m n : Int} (s : Bool) (hm : 0 ≤ m) (hn : 0 ≤ n) : strictOr (m + n) 0 s false = strictOr m n s s := by
  unfold strictOr
  cases s
  · simp
  · by_cases h1 : 0 < m <;> by_cases h2 : 0 < n <;> simp [h1, h2] <;> omega
theorem twice_ok {xs : List Int} {b m n : Int} (hm : 0 ≤ m) (hn : 0 ≤ n) (hm' : m ≤ 500000) (hn' : n ≤ 500000) : linSumOk (m + n) xs b 0 [0, 0, 0, 0] 0 = linSumOk m xs b n xs b := by
  cases hx : linOk xs b
  · simp [linSumOk, hx]
  · have h1 : within (m + n) 0 1000000 = true := within_iff.2 ⟨by omega, by omega⟩
    have h2 : within m 0 1000000 = true := within_iff.2 ⟨by omega, by omega⟩
    have h3 : within n 0 1000000 = true := within_iff.2 ⟨by omega, by omega⟩
    have h4 : within 0 0 1000000 = true := by decide
    have h5 : linOk [0, 0, 0, 0] 0 = true := by decide
    simp only [linSumOk, hx, h1, h2, h3, h4, h5, twice_list hx, twice_bound]
end Go.Proofs.Ytccjbipmlpnhkaa
