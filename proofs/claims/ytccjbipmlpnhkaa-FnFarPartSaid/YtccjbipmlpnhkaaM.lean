/- The plain laws of fractions in least terms: no program in sight. -/
import Derived.Test.YtccjbipmlpnhkaaP
namespace Go.Proofs.Ytccjbipmlpnhkaa
set_option maxRecDepth 100000
set_option linter.unusedSimpArgs false
set_option linter.unusedVariables false

theorem dvd_of_gcd_one {k m n : Int} (h : k ∣ m * n) (hg : Int.gcd k m = 1) : k ∣ n := by
  rw [← Int.natAbs_dvd_natAbs] at h ⊢
  rw [Int.natAbs_mul] at h
  exact Nat.Coprime.dvd_of_dvd_mul_left hg h
theorem ratOk_unique {a b c d : Int} (h : ratOk a b = true) (k : ratOk c d = true) (e : a * d = c * b) : a = c ∧ b = d := by
  obtain ⟨_, ⟨hb, _⟩, h1⟩ := ratOk_iff.1 h
  obtain ⟨_, ⟨hd, _⟩, k1⟩ := ratOk_iff.1 k
  have bd : b ∣ d := by
    have : b ∣ a * d := ⟨c, by rw [e, Int.mul_comm]⟩
    exact dvd_of_gcd_one this (by rw [Int.gcd_comm]; exact h1)
  have db : d ∣ b := by
    have : d ∣ c * b := ⟨a, by rw [← e, Int.mul_comm]⟩
    exact dvd_of_gcd_one this (by rw [Int.gcd_comm]; exact k1)
  have hbd : b = d := by
    have h1 := Int.le_of_dvd (by omega) bd
    have h2 := Int.le_of_dvd (by omega) db
    omega
  subst hbd
  exact ⟨Int.eq_of_mul_eq_mul_right (by omega) e, rfl⟩

theorem tdiv_gcd_mul {n d : Int} : (n.tdiv (Int.gcd n d)) * (Int.gcd n d : Int) = n ∧ (d.tdiv (Int.gcd n d)) * (Int.gcd n d : Int) = d :=
  ⟨Int.tdiv_mul_cancel (Int.gcd_dvd_left ..), Int.tdiv_mul_cancel (Int.gcd_dvd_right ..)⟩

/-- What is told as a fraction is one in least terms, and it is the fraction of the two numbers. -/
theorem mk_spec {n d x y : Int} (h : mk n d = (x, y, true)) : ratOk x y = true ∧ x * d = n * y := by
  unfold mk at h
  split at h
  · rename_i hk
    simp only [Prod.mk.injEq, and_true] at h
    obtain ⟨rfl, rfl⟩ := h
    refine ⟨hk, ?_⟩
    obtain ⟨e1, e2⟩ := tdiv_gcd_mul (n := n) (d := d)
    generalize n.tdiv (Int.gcd n d) = X at *
    generalize d.tdiv (Int.gcd n d) = Y at *
    generalize (Int.gcd n d : Int) = g at *
    rw [← e1, ← e2]
    grind
  · simp at h

theorem mk_complete {n d x y : Int} (hd : 0 < d) (h : ratOk x y = true) (e : x * d = n * y) : mk n d = (x, y, true) := by
  obtain ⟨e1, e2⟩ := tdiv_gcd_mul (n := n) (d := d)
  have hg : 0 < Int.gcd n d := gcd_pos_of (by omega)
  obtain ⟨_, ⟨hy, _⟩, h1⟩ := ratOk_iff.1 h
  have hc : Int.gcd (n.tdiv (Int.gcd n d)) (d.tdiv (Int.gcd n d)) = 1 := by
    have t1 : n.tdiv (Int.gcd n d) = n / (Int.gcd n d : Int) := Int.tdiv_eq_ediv_of_dvd (Int.gcd_dvd_left ..)
    have t2 : d.tdiv (Int.gcd n d) = d / (Int.gcd n d : Int) := Int.tdiv_eq_ediv_of_dvd (Int.gcd_dvd_right ..)
    rw [t1, t2]
    exact Int.gcd_ediv_gcd_ediv_gcd hg
  have key : n.tdiv (Int.gcd n d) = x ∧ d.tdiv (Int.gcd n d) = y := by
    generalize n.tdiv (Int.gcd n d) = X at *
    generalize d.tdiv (Int.gcd n d) = Y at *
    have hg' : (0 : Int) < (Int.gcd n d : Int) := by omega
    generalize (Int.gcd n d : Int) = g at *
    have e3 : x * Y = X * y := by
      refine Int.eq_of_mul_eq_mul_right (a := g) (by omega) ?_
      rw [Int.mul_assoc, e2, e, ← e1]
      grind
    have hY : 0 < Y := by
      rcases Int.lt_trichotomy Y 0 with hn | hn | hn
      · exfalso
        have := Int.mul_neg_of_neg_of_pos hn hg'
        omega
      · subst hn; omega
      · exact hn
    have yY : y ∣ Y := by
      have : y ∣ x * Y := ⟨X, by rw [e3, Int.mul_comm]⟩
      exact dvd_of_gcd_one this (by rw [Int.gcd_comm]; exact h1)
    have Yy : Y ∣ y := by
      have : Y ∣ X * y := ⟨x, by rw [← e3, Int.mul_comm]⟩
      exact dvd_of_gcd_one this (by rw [Int.gcd_comm]; exact hc)
    have hyY : y = Y := by
      have h1 := Int.le_of_dvd (by omega) yY
      have h2 := Int.le_of_dvd (by omega) Yy
      omega
    subst hyY
    exact ⟨(Int.eq_of_mul_eq_mul_right (by omega) e3).symm, rfl⟩
  unfold mk
  rw [key.1, key.2, if_pos h]

theorem mk_false {n d x y : Int} (h : mk n d = (x, y, false)) : x = 0 ∧ y = 0 := by
  unfold mk at h
  split at h
  · simp at h
  · simp only [Prod.mk.injEq, and_true] at h
    exact ⟨h.1.symm, h.2.symm⟩

/-- Two pairs of numbers that make one fraction. -/
theorem mk_cross {n d m e : Int} (hd : 0 < d) (he : 0 < e) (h : n * e = m * d) : mk n d = mk m e := by
  obtain ⟨x, y, b, h1⟩ : ∃ x y b, mk n d = (x, y, b) := ⟨_, _, _, rfl⟩
  obtain ⟨p, q, c, h2⟩ : ∃ p q c, mk m e = (p, q, c) := ⟨_, _, _, rfl⟩
  rw [h1, h2]
  cases b
  · cases c
    · obtain ⟨rfl, rfl⟩ := mk_false h1
      obtain ⟨rfl, rfl⟩ := mk_false h2
      rfl
    · obtain ⟨k1, k2⟩ := mk_spec h2
      have := mk_complete hd k1 (n := n) (by
        refine Int.eq_of_mul_eq_mul_right (a := e) (by omega) ?_
        grind)
      rw [h1] at this
      simp at this
  · obtain ⟨k1, k2⟩ := mk_spec h1
    have := mk_complete he k1 (n := m) (by
      refine Int.eq_of_mul_eq_mul_right (a := d) (by omega) ?_
      grind)
    rw [h2] at this
    exact this.symm

theorem ratOk_pos {a b : Int} (h : ratOk a b = true) : 0 < b := by have := ratOk_iff.1 h; omega
theorem mul_pos' {a b : Int} (ha : 0 < a) (hb : 0 < b) : 0 < a * b := Int.mul_pos ha hb

/-- What the operations say, where they say something. -/
theorem addR_spec {a b c d x y : Int} (h : addR a b c d = (x, y, true)) : ratOk a b = true ∧ ratOk c d = true ∧ ratOk x y = true ∧ x * (b * d) = (a * d + c * b) * y := by
  unfold addR at h
  split at h
  · rename_i hk
    obtain ⟨k1, k2⟩ := mk_spec h
    exact ⟨hk.1, hk.2, k1, k2⟩
  · simp at h
theorem mulR_spec {a b c d x y : Int} (h : mulR a b c d = (x, y, true)) : ratOk a b = true ∧ ratOk c d = true ∧ ratOk x y = true ∧ x * (b * d) = (a * c) * y := by
  unfold mulR at h
  split at h
  · rename_i hk
    obtain ⟨k1, k2⟩ := mk_spec h
    exact ⟨hk.1, hk.2, k1, k2⟩
  · simp at h
theorem addR_none {a b c d x y : Int} (h : addR a b c d = (x, y, false)) : x = 0 ∧ y = 0 := by
  unfold addR at h
  split at h
  · exact mk_false h
  · simp only [Prod.mk.injEq, and_true] at h
    exact ⟨h.1.symm, h.2.symm⟩
theorem mulR_none {a b c d x y : Int} (h : mulR a b c d = (x, y, false)) : x = 0 ∧ y = 0 := by
  unfold mulR at h
  split at h
  · exact mk_false h
  · simp only [Prod.mk.injEq, and_true] at h
    exact ⟨h.1.symm, h.2.symm⟩
theorem addR_of {a b c d x y : Int} (h1 : ratOk a b = true) (h2 : ratOk c d = true) (h3 : ratOk x y = true) (e : x * (b * d) = (a * d + c * b) * y) : addR a b c d = (x, y, true) := by
  unfold addR; rw [if_pos ⟨h1, h2⟩]; exact mk_complete (mul_pos' (ratOk_pos h1) (ratOk_pos h2)) h3 e
theorem mulR_of {a b c d x y : Int} (h1 : ratOk a b = true) (h2 : ratOk c d = true) (h3 : ratOk x y = true) (e : x * (b * d) = (a * c) * y) : mulR a b c d = (x, y, true) := by
  unfold mulR; rw [if_pos ⟨h1, h2⟩]; exact mk_complete (mul_pos' (ratOk_pos h1) (ratOk_pos h2)) h3 e
theorem addR_comm (a b c d : Int) : addR a b c d = addR c d a b := by
  unfold addR
  rw [Int.add_comm, Int.mul_comm b d]
  by_cases h1 : ratOk a b = true <;> by_cases h2 : ratOk c d = true <;> simp [h1, h2]
theorem mulR_comm (a b c d : Int) : mulR a b c d = mulR c d a b := by
  unfold mulR
  rw [Int.mul_comm a c, Int.mul_comm b d]
  by_cases h1 : ratOk a b = true <;> by_cases h2 : ratOk c d = true <;> simp [h1, h2]
theorem ratOk_neg {a b : Int} (h : ratOk a b = true) : ratOk (-a) b = true := by
  rw [ratOk_iff] at h ⊢
  refine ⟨by omega, h.2.1, ?_⟩
  rw [Int.neg_gcd]; exact h.2.2
theorem ratOk_zero : ratOk 0 1 = true := by decide
theorem ratOk_one : ratOk 1 1 = true := by decide
theorem ratOk_mone : ratOk (-1) 1 = true := by decide
theorem ratOk_half : ratOk 1 2 = true := by decide
theorem mkz_spec {n d x y : Int} (h : mkz n d = (x, y, true)) : d ≠ 0 ∧ ratOk x y = true ∧ x * d = n * y := by
  unfold mkz at h
  split at h
  · simp at h
  · rename_i h0
    split at h
    · obtain ⟨k1, k2⟩ := mk_spec h
      exact ⟨h0, k1, by grind⟩
    · obtain ⟨k1, k2⟩ := mk_spec h
      exact ⟨h0, k1, k2⟩
theorem mkz_of {n d x y : Int} (h0 : d ≠ 0) (h : ratOk x y = true) (e : x * d = n * y) : mkz n d = (x, y, true) := by
  unfold mkz
  rw [if_neg h0]
  split
  · exact mk_complete (by omega) h (by grind)
  · exact mk_complete (by omega) h e
theorem mkz_none {n d x y : Int} (h : mkz n d = (x, y, false)) : x = 0 ∧ y = 0 := by
  unfold mkz at h
  split at h
  · simp only [Prod.mk.injEq, and_true] at h; exact ⟨h.1.symm, h.2.symm⟩
  · split at h
    · exact mk_false h
    · exact mk_false h
theorem ofR_spec {n d x y : Int} (h : ofR n d = (x, y, true)) : (-1000000000 ≤ n ∧ n ≤ 1000000000) ∧ (-1000000000 ≤ d ∧ d ≤ 1000000000) ∧ d ≠ 0 ∧ ratOk x y = true ∧ x * d = n * y := by
  unfold ofR at h
  split at h
  · rename_i hk
    exact ⟨within_iff.1 hk.1, within_iff.1 hk.2, mkz_spec h⟩
  · simp at h
theorem ofR_none {n d x y : Int} (h : ofR n d = (x, y, false)) : x = 0 ∧ y = 0 := by
  unfold ofR at h
  split at h
  · exact mkz_none h
  · simp only [Prod.mk.injEq, and_true] at h; exact ⟨h.1.symm, h.2.symm⟩
theorem ofR_of {n d x y : Int} (hn : -1000000000 ≤ n ∧ n ≤ 1000000000) (hd : -1000000000 ≤ d ∧ d ≤ 1000000000) (h0 : d ≠ 0) (h : ratOk x y = true) (e : x * d = n * y) : ofR n d = (x, y, true) := by
  unfold ofR
  rw [if_pos ⟨within_iff.2 hn, within_iff.2 hd⟩]
  exact mkz_of h0 h e
theorem ofR_neg {n d x y : Int} (h : ofR n d = (x, y, true)) : ofR (-n) (-d) = (x, y, true) := by
  obtain ⟨h1, h2, h3, h4, h5⟩ := ofR_spec h
  exact ofR_of (by omega) (by omega) (by omega) h4 (by grind)
theorem ofR_three {n d x y p q : Int} (h : ofR n d = (x, y, true)) (k : ofR (3 * n) (3 * d) = (p, q, true)) : p = x ∧ q = y := by
  obtain ⟨h1, h2, h3, h4, h5⟩ := ofR_spec h
  obtain ⟨k1, k2, k3, k4, k5⟩ := ofR_spec k
  refine ratOk_unique k4 h4 ?_
  refine Int.eq_of_mul_eq_mul_right (a := d) h3 ?_
  grind
theorem gcd_swap {a b : Int} (h : Int.gcd a b = 1) : Int.gcd b a = 1 := by rw [Int.gcd_comm]; exact h
/-- A valid fraction that is not 0 has a reciprocal. -/
theorem over_ok {n d : Int} (h : ratOk n d = true) (h0 : n ≠ 0) : ∃ X Y, ofR d n = (X, Y, true) ∧ ratOk X Y = true ∧ mulR n d X Y = (1, 1, true) := by
  obtain ⟨hn, hd, hg⟩ := ratOk_iff.1 h
  rcases Int.lt_or_gt_of_ne h0 with hl | hl
  · have hk : ratOk (-d) (-n) = true := ratOk_iff.2 ⟨by omega, by omega, by rw [Int.neg_gcd, Int.gcd_neg]; exact gcd_swap hg⟩
    refine ⟨-d, -n, ofR_of (by omega) (by omega) h0 hk (by grind), hk, ?_⟩
    exact mulR_of h hk ratOk_one (by grind)
  · have hk : ratOk d n = true := ratOk_iff.2 ⟨by omega, by omega, gcd_swap hg⟩
    refine ⟨d, n, ofR_of (by omega) (by omega) h0 hk rfl, hk, ?_⟩
    exact mulR_of h hk ratOk_one (by grind)
/-- The negative. -/
theorem neg_add {n d : Int} (h : ratOk n d = true) : addR n d (-n) d = (0, 1, true) :=
  addR_of h (ratOk_neg h) ratOk_zero (by grind)
theorem neg_mul {n d : Int} (h : ratOk n d = true) : mulR n d (-1) 1 = (-n, d, true) :=
  mulR_of h ratOk_mone (ratOk_neg h) (by grind)
theorem less_neg {n d : Int} (h : ratOk n d = true) : lessR n d (-n) d = decide (n < 0) ∧ lessR (-n) d n d = decide (0 < n) := by
  have hk := ratOk_neg h
  have hp := ratOk_pos h
  simp only [lessR, h, hk, Bool.true_and]
  constructor
  · rw [decide_eq_decide]
    constructor
    · intro hh
      have := Int.lt_of_mul_lt_mul_right hh (by omega)
      omega
    · intro hh
      exact Int.mul_lt_mul_of_pos_right (by omega) hp
  · rw [decide_eq_decide]
    constructor
    · intro hh
      have := Int.lt_of_mul_lt_mul_right hh (by omega)
      omega
    · intro hh
      exact Int.mul_lt_mul_of_pos_right (by omega) hp
theorem addR_zero {a b : Int} (h : ratOk a b = true) : addR a b 0 1 = (a, b, true) := addR_of h ratOk_zero h (by grind)
theorem addR_back {a b c d x y : Int} (h : addR a b c d = (x, y, true)) : addR x y (-c) d = (a, b, true) := by
  obtain ⟨h1, h2, h3, h4⟩ := addR_spec h
  exact addR_of h3 (ratOk_neg h2) h1 (by grind)
theorem less_total {a b c d : Int} (h1 : ratOk a b = true) (h2 : ratOk c d = true) : (a = c ∧ b = d ∧ lessR a b c d = false ∧ lessR c d a b = false) ∨ (¬ (a = c ∧ b = d) ∧ lessR a b c d = true ∧ lessR c d a b = false) ∨ (¬ (a = c ∧ b = d) ∧ lessR a b c d = false ∧ lessR c d a b = true) := by
  simp only [lessR, h1, h2, Bool.true_and]
  rcases Int.lt_trichotomy (a * d) (c * b) with h | h | h
  · refine .inr (.inl ⟨fun e => ?_, by simpa using h, by simp; omega⟩)
    obtain ⟨rfl, rfl⟩ := e
    omega
  · obtain ⟨rfl, rfl⟩ := ratOk_unique h1 h2 h
    exact .inl ⟨rfl, rfl, by simp, by simp⟩
  · refine .inr (.inr ⟨fun e => ?_, by simp; omega, by simpa using h⟩)
    obtain ⟨rfl, rfl⟩ := e
    omega
theorem less_shift {a b c d e f p q r s : Int} (h : addR a b e f = (p, q, true)) (k : addR c d e f = (r, s, true)) : lessR p q r s = lessR a b c d := by
  obtain ⟨h1, h2, h3, h4⟩ := addR_spec h
  obtain ⟨k1, k2, k3, k4⟩ := addR_spec k
  have hb := ratOk_pos h1
  have hf := ratOk_pos h2
  have hq := ratOk_pos h3
  have hd := ratOk_pos k1
  have hs := ratOk_pos k3
  simp only [lessR, h1, h3, k1, k3, Bool.true_and]
  rw [decide_eq_decide]
  have hK : 0 < b * f * (d * f) := mul_pos' (mul_pos' hb hf) (mul_pos' hd hf)
  have hM : 0 < q * s * (f * f) := mul_pos' (mul_pos' hq hs) (mul_pos' hf hf)
  have e1 : (r * q - p * s) * (b * f * (d * f)) = (c * b - a * d) * (q * s * (f * f)) := by grind
  constructor
  · intro hh
    have h5 : 0 < (r * q - p * s) * (b * f * (d * f)) := mul_pos' (by omega) hK
    rw [e1] at h5
    have := Int.pos_of_mul_pos_left h5 hM
    omega
  · intro hh
    have h5 : 0 < (c * b - a * d) * (q * s * (f * f)) := mul_pos' (by omega) hM
    rw [← e1] at h5
    have := Int.pos_of_mul_pos_left h5 hK
    omega
/-- Sums associate. -/
theorem addR_assoc {a b c d e f p q r s : Int} (h : addR a b c d = (p, q, true)) (k : addR c d e f = (r, s, true)) : addR p q e f = addR a b r s := by
  obtain ⟨h1, h2, h3, h4⟩ := addR_spec h
  obtain ⟨k1, k2, k3, k4⟩ := addR_spec k
  have hb := ratOk_pos h1
  have hd := ratOk_pos h2
  have hq := ratOk_pos h3
  have hf := ratOk_pos k2
  have hs := ratOk_pos k3
  unfold addR
  rw [if_pos ⟨h3, k2⟩, if_pos ⟨h1, k3⟩]
  refine mk_cross (mul_pos' hq hf) (mul_pos' hb hs) ?_
  refine Int.eq_of_mul_eq_mul_right (a := d) (by omega) ?_
  grind
theorem less_trans {a b c d e f : Int} (h : lessR a b c d = true) (k : lessR c d e f = true) : lessR a b e f = true := by
  simp only [lessR, Bool.and_eq_true, decide_eq_true_eq] at h k ⊢
  obtain ⟨h1, h2, h3⟩ := h
  obtain ⟨k1, k2, k3⟩ := k
  refine ⟨h1, k2, ?_⟩
  have hb := ratOk_pos h1
  have hd := ratOk_pos h2
  have hf := ratOk_pos k2
  have e1 : (a * d) * f < (c * b) * f := Int.mul_lt_mul_of_pos_right h3 hf
  have e2 : (c * f) * b < (e * d) * b := Int.mul_lt_mul_of_pos_right k3 hb
  have e3 : (c * b) * f = (c * f) * b := by grind
  have e4 : (a * f) * d < (e * b) * d := by
    have l1 : (a * f) * d = (a * d) * f := by grind
    have l2 : (e * b) * d = (e * d) * b := by grind
    omega
  exact Int.lt_of_mul_lt_mul_right e4 (by omega)
/-- Products. -/
theorem mulR_one {a b : Int} (h : ratOk a b = true) : mulR a b 1 1 = (a, b, true) := mulR_of h ratOk_one h (by grind)
theorem mulR_zero {a b : Int} (h : ratOk a b = true) : mulR a b 0 1 = (0, 1, true) := mulR_of h ratOk_zero ratOk_zero (by grind)
theorem mulR_dist {a b c d e f x y s t l m u v p q : Int} (hx : mulR a b c d = (x, y, true)) (hs : addR c d e f = (s, t, true)) (hl : mulR a b s t = (l, m, true))
    (hu : mulR a b e f = (u, v, true)) (hp : addR x y u v = (p, q, true)) : l = p ∧ m = q := by
  obtain ⟨x1, x2, x3, x4⟩ := mulR_spec hx
  obtain ⟨s1, s2, s3, s4⟩ := addR_spec hs
  obtain ⟨l1, l2, l3, l4⟩ := mulR_spec hl
  obtain ⟨u1, u2, u3, u4⟩ := mulR_spec hu
  obtain ⟨p1, p2, p3, p4⟩ := addR_spec hp
  have hb := ratOk_pos x1
  have hd := ratOk_pos x2
  have hf := ratOk_pos s2
  have ht := ratOk_pos s3
  have hy := ratOk_pos x3
  have hv := ratOk_pos u3
  refine ratOk_unique l3 p3 ?_
  refine Int.eq_of_mul_eq_mul_right (a := b * d * f * t * y * v) (Int.ne_of_gt (mul_pos' (mul_pos' (mul_pos' (mul_pos' (mul_pos' hb hd) hf) ht) hy) hv)) ?_
  grind
/-- Middles. -/
theorem midR_cases (a b c d : Int) : (∃ p q, addR a b c d = (p, q, true) ∧ midR a b c d = mulR p q 1 2) ∨ midR a b c d = (0, 0, false) := by
  obtain ⟨p, q, t, h⟩ : ∃ p q t, addR a b c d = (p, q, t) := ⟨_, _, _, rfl⟩
  cases t
  · exact .inr (by simp [midR, h])
  · exact .inl ⟨p, q, h, by simp [midR, h]⟩
theorem midR_comm (a b c d : Int) : midR a b c d = midR c d a b := by
  unfold midR; rw [addR_comm]
theorem midR_spec {a b c d x y : Int} (h : midR a b c d = (x, y, true)) : ratOk a b = true ∧ ratOk c d = true ∧ ratOk x y = true ∧ x * (2 * (b * d)) = (a * d + c * b) * y := by
  rcases midR_cases a b c d with ⟨p, q, h1, h2⟩ | h1
  · obtain ⟨k1, k2, k3, k4⟩ := addR_spec h1
    rw [h2] at h
    obtain ⟨m1, m2, m3, m4⟩ := mulR_spec h
    refine ⟨k1, k2, m3, ?_⟩
    have hq := ratOk_pos k3
    refine Int.eq_of_mul_eq_mul_right (a := q) (by omega) ?_
    grind
  · rw [h] at h1; simp at h1
theorem midR_none {a b c d x y : Int} (h : midR a b c d = (x, y, false)) : x = 0 ∧ y = 0 := by
  rcases midR_cases a b c d with ⟨p, q, h1, h2⟩ | h1
  · exact mulR_none (h2.symm.trans h)
  · rw [h] at h1; simp at h1; exact h1
theorem midR_same {a b x y : Int} (h : midR a b a b = (x, y, true)) : x = a ∧ y = b := by
  obtain ⟨h1, h2, h3, h4⟩ := midR_spec h
  have hb := ratOk_pos h1
  refine ratOk_unique h3 h1 ?_
  refine Int.eq_of_mul_eq_mul_right (a := 2 * b) (by omega) ?_
  grind
theorem midR_between {a b c d x y : Int} (h : midR a b c d = (x, y, true)) (k : lessR a b c d = true) : lessR a b x y = true ∧ lessR x y c d = true := by
  obtain ⟨h1, h2, h3, h4⟩ := midR_spec h
  have hb := ratOk_pos h1
  have hd := ratOk_pos h2
  have hy := ratOk_pos h3
  simp only [lessR, h1, h2, h3, Bool.true_and, decide_eq_true_eq] at k ⊢
  constructor
  · refine Int.lt_of_mul_lt_mul_right (a := 2 * (b * d)) ?_ (by have := mul_pos' hb hd; omega)
    have e1 : (x * b) * (2 * (b * d)) = ((a * d + c * b) * y) * b := by grind
    have e2 : (a * y) * (2 * (b * d)) = (2 * (a * d)) * (y * b) := by grind
    have e3 : ((a * d + c * b) * y) * b = (a * d + c * b) * (y * b) := by grind
    rw [e1, e2, e3]
    exact Int.mul_lt_mul_of_pos_right (by omega) (mul_pos' hy hb)
  · refine Int.lt_of_mul_lt_mul_right (a := 2 * (b * d)) ?_ (by have := mul_pos' hb hd; omega)
    have e1 : (x * d) * (2 * (b * d)) = (a * d + c * b) * (y * d) := by grind
    have e2 : (c * y) * (2 * (b * d)) = (2 * (c * b)) * (y * d) := by grind
    rw [e1, e2]
    exact Int.mul_lt_mul_of_pos_right (by omega) (mul_pos' hy hd)
#print axioms mk_cross
#print axioms addR_comm
end Go.Proofs.Ytccjbipmlpnhkaa
