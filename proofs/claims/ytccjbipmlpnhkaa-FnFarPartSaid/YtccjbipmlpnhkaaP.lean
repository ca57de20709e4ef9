/- Plain arithmetic of fractions: what the functions compute. No program in sight. -/
import Derived.RowKit
namespace Go.Proofs.Ytccjbipmlpnhkaa
set_option linter.unusedSimpArgs false
set_option linter.unusedVariables false

/-- in a range -/
def within (n lo hi : Int) : Bool := decide (lo ≤ n) && decide (n ≤ hi)
theorem within_iff {n lo hi : Int} : within n lo hi = true ↔ lo ≤ n ∧ n ≤ hi := by unfold within; simp
theorem within_no {n lo hi : Int} : within n lo hi = false ↔ ¬ (lo ≤ n ∧ n ≤ hi) := by rw [← within_iff]; simp

/-- a number without its sign, at most 1 above the bound -/
def abs1 (n : Int) : Int := if n < -1000000000 ∨ 1000000000 < n then 1000000001 else if n < 0 then -n else n
theorem abs1_in {n : Int} (h : -1000000000 ≤ n) (h' : n ≤ 1000000000) : abs1 n = n.natAbs := by unfold abs1; split <;> (try split) <;> omega
theorem abs1_out {n : Int} (h : ¬ (-1000000000 ≤ n ∧ n ≤ 1000000000)) : abs1 n = 1000000001 := by unfold abs1; rw [if_pos (by omega)]
theorem abs1_le {n : Int} : abs1 n ≤ 1000000000 ↔ within n (-1000000000) 1000000000 = true := by
  rw [within_iff]; unfold abs1; split <;> (try split) <;> omega
theorem abs1_lo (n : Int) : 0 ≤ abs1 n := by unfold abs1; split <;> (try split) <;> omega
theorem abs1_hi (n : Int) : abs1 n ≤ 1000000001 := by unfold abs1; split <;> (try split) <;> omega

/-- a valid fraction -/
def ratOk (n d : Int) : Bool := within n (-1000000000) 1000000000 && (within d 1 1000000000 && decide (Int.gcd n d = 1))
theorem ratOk_iff {n d : Int} : ratOk n d = true ↔ (-1000000000 ≤ n ∧ n ≤ 1000000000) ∧ (1 ≤ d ∧ d ≤ 1000000000) ∧ Int.gcd n d = 1 := by
  unfold ratOk; simp [within_iff]

/-- the fraction of two numbers in least ones, the lower one above 0 -/
def mk (n d : Int) : Int × Int × Bool :=
  if ratOk (n.tdiv (Int.gcd n d)) (d.tdiv (Int.gcd n d)) = true then (n.tdiv (Int.gcd n d), d.tdiv (Int.gcd n d), true) else (0, 0, false)
/-- the same, whatever the lower one -/
def mkz (n d : Int) : Int × Int × Bool := if d = 0 then (0, 0, false) else if d < 0 then mk (-n) (-d) else mk n d
def ofR (n d : Int) : Int × Int × Bool :=
  if within n (-1000000000) 1000000000 = true ∧ within d (-1000000000) 1000000000 = true then mkz n d else (0, 0, false)
def addR (a b c d : Int) : Int × Int × Bool := if ratOk a b = true ∧ ratOk c d = true then mk (a * d + c * b) (b * d) else (0, 0, false)
def mulR (a b c d : Int) : Int × Int × Bool := if ratOk a b = true ∧ ratOk c d = true then mk (a * c) (b * d) else (0, 0, false)
def lessR (a b c d : Int) : Bool := ratOk a b && (ratOk c d && decide (a * d < c * b))
def midR (a b c d : Int) : Int × Int × Bool := match addR a b c d with
  | (x, y, true) => mulR x y 1 2
  | _ => (0, 0, false)

theorem mul_bd {a d : Int} (h1 : -1000000000 ≤ a) (h2 : a ≤ 1000000000) (h3 : 0 ≤ d) (h4 : d ≤ 1000000000) : -1000000000000000000 ≤ a * d ∧ a * d ≤ 1000000000000000000 := by
  constructor
  · have h := Int.mul_le_mul_of_nonneg_right h1 h3
    omega
  · have h := Int.mul_le_mul_of_nonneg_right h2 h3
    omega
theorem mul_bd2 {a c : Int} (h1 : -1000000000 ≤ a) (h2 : a ≤ 1000000000) (h3 : -1000000000 ≤ c) (h4 : c ≤ 1000000000) : -1000000000000000000 ≤ a * c ∧ a * c ≤ 1000000000000000000 := by
  rcases Int.le_total 0 c with h | h
  · exact mul_bd h1 h2 h h4
  · have := mul_bd h1 h2 (d := -c) (by omega) (by omega)
    rw [Int.mul_neg] at this
    omega
theorem mul_bd1 {b d : Int} (h1 : 1 ≤ b) (h2 : b ≤ 1000000000) (h3 : 1 ≤ d) (h4 : d ≤ 1000000000) : 1 ≤ b * d ∧ b * d ≤ 1000000000000000000 := by
  refine ⟨?_, (mul_bd (by omega) h2 (by omega) h4).2⟩
  have := Int.mul_le_mul_of_nonneg_right (c := d) h1 (by omega)
  omega
theorem gcd_pos_of {n d : Int} (h : d ≠ 0) : 0 < Int.gcd n d := Int.gcd_pos_of_ne_zero_right _ h
theorem gcd_abs (n d : Int) (m : Int) (h : m = n.natAbs) : Int.gcd m d = Int.gcd n d := by subst h; simp [Int.gcd]
end Go.Proofs.Ytccjbipmlpnhkaa
