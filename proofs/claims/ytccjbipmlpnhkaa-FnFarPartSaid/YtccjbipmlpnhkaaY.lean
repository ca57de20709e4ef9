/- Plain laws of constraints at points: over the rationals. -/
import Derived.Test.YtccjbipmlpnhkaaN
import Derived.Test.YtccjbipmlpnhkaaM
namespace Go.Proofs.Ytccjbipmlpnhkaa
set_option maxRecDepth 100000

/-- a sum with one product more -/
def plusR (s : Int × Int) (c : Int) (v : Int × Int) : Option (Int × Int) :=
  match mulR c 1 v.1 v.2 with
  | (x, y, true) => match addR s.1 s.2 x y with
    | (p, q, true) => some (p, q)
    | _ => none
  | _ => none
/-- the sum of the first k products -/
def sumTo (xs : List Int) (vs : List (Int × Int)) : Nat → Option (Int × Int)
  | 0 => some (0, 1)
  | k + 1 => (sumTo xs vs k).bind fun s => plusR s (xs.getD k 0) (vs.getD k (0, 0))
/-- values of the variables -/
def valsOk (vs : List (Int × Int)) : Bool := vs.all (fun v => ratOk v.1 v.2) && decide (vs.length = 4)
/-- a number meets a bound -/
def holdsB (p q b : Int) (s : Bool) : Bool := lessR p q b 1 || (!s && (p == b && q == 1))
def belowB (p q b : Int) (s : Bool) : Bool := if s then lessR p q b 1 else !lessR b 1 p q
/-- what a constraint is at a point -/
def linAt (xs : List Int) (b : Int) (s : Bool) (vs : List (Int × Int)) : Bool × Bool :=
  if (linOk xs b && valsOk vs) = true then
    match sumTo xs vs 4 with
    | none => (false, false)
    | some (p, q) => (holdsB p q b s, true)
  else (false, false)

def V (s : Int × Int) : Rat := (s.1 : Rat) / (s.2 : Rat)
theorem cast_ne {b : Int} (h : 0 < b) : (b : Rat) ≠ 0 := fun e => by
  have := Rat.intCast_inj.1 (e.trans (by rfl : (0 : Rat) = ((0 : Int) : Rat))); omega
theorem cast_pos {b : Int} (h : 0 < b) : (0 : Rat) < (b : Rat) := by exact_mod_cast h

theorem plusR_some {s v t : Int × Int} {c : Int} (h : plusR s c v = some t) :
    ∃ x y, mulR c 1 v.1 v.2 = (x, y, true) ∧ addR s.1 s.2 x y = (t.1, t.2, true) := by
  unfold plusR at h
  split at h
  · rename_i x y hm
    split at h
    · rename_i p q ha
      injection h with h
      subst h
      exact ⟨x, y, hm, ha⟩
    · cases h
  · cases h
theorem plusR_of {s v : Int × Int} {c x y p q : Int} (h : mulR c 1 v.1 v.2 = (x, y, true)) (k : addR s.1 s.2 x y = (p, q, true)) : plusR s c v = some (p, q) := by
  unfold plusR; rw [h]; simp only; rw [k]
theorem plusR_val {s v t : Int × Int} {c : Int} (h : plusR s c v = some t) : V t = V s + c * V v ∧ ratOk t.1 t.2 = true ∧ ratOk s.1 s.2 = true ∧ ratOk v.1 v.2 = true := by
  obtain ⟨x, y, hm, ha⟩ := plusR_some h
  obtain ⟨_, hv, hxy, e1⟩ := mulR_spec hm
  obtain ⟨hs, _, ht, e2⟩ := addR_spec ha
  refine ⟨?_, ht, hs, hv⟩
  have a1 := cast_ne (ratOk_pos hv)
  have a2 := cast_ne (ratOk_pos hxy)
  have a3 := cast_ne (ratOk_pos ht)
  have a4 := cast_ne (ratOk_pos hs)
  have e1' := congrArg (Int.cast : Int → Rat) e1
  have e2' := congrArg (Int.cast : Int → Rat) e2
  simp only [Rat.intCast_mul, Rat.intCast_add] at e1' e2'
  unfold V
  have h1 : (x : Rat) / y = c * ((v.1 : Rat) / v.2) := by grind
  rw [← h1]
  grind
/-- the sum as a number -/
def dot (xs : List Int) (vs : List (Int × Int)) : Nat → Rat
  | 0 => 0
  | k + 1 => dot xs vs k + (xs.getD k 0 : Int) * V (vs.getD k (0, 0))
theorem sumTo_val {xs : List Int} {vs : List (Int × Int)} : ∀ {k : Nat} {t : Int × Int}, sumTo xs vs k = some t → V t = dot xs vs k ∧ ratOk t.1 t.2 = true
  | 0, t, h => by
    simp only [sumTo, Option.some.injEq] at h
    subst h
    refine ⟨?_, ratOk_zero⟩
    simp [V, dot]
    grind
  | k + 1, t, h => by
    simp only [sumTo, Option.bind_eq_some_iff] at h
    obtain ⟨s, h1, h2⟩ := h
    obtain ⟨e, _⟩ := sumTo_val h1
    obtain ⟨e2, ht, _⟩ := plusR_val h2
    exact ⟨by rw [e2, e]; rfl, ht⟩

theorem less_V {p q b : Int} (h : ratOk p q = true) (hb : ratOk b 1 = true) : lessR p q b 1 = decide (V (p, q) < b) := by
  have hq := ratOk_pos h
  unfold lessR V
  rw [h, hb, Bool.true_and, Bool.true_and, decide_eq_decide, Rat.div_lt_iff (cast_pos hq)]
  rw [Int.mul_one]
  exact_mod_cast Iff.rfl
theorem less_V' {p q b : Int} (h : ratOk p q = true) (hb : ratOk b 1 = true) : lessR b 1 p q = decide ((b : Rat) < V (p, q)) := by
  have hq := ratOk_pos h
  unfold lessR V
  rw [h, hb, Bool.true_and, Bool.true_and, decide_eq_decide, Rat.lt_div_iff (cast_pos hq)]
  rw [Int.mul_one]
  exact_mod_cast Iff.rfl
theorem eq_V {p q b : Int} (h : ratOk p q = true) (hb : ratOk b 1 = true) : (p == b && q == 1) = decide (V (p, q) = (b : Rat)) := by
  have hq := cast_ne (ratOk_pos h)
  rw [Bool.eq_iff_iff, decide_eq_true_iff]
  simp only [Bool.and_eq_true, beq_iff_eq]
  unfold V
  constructor
  · rintro ⟨rfl, rfl⟩
    have h1 : ((1 : Int) : Rat) = 1 := rfl
    rw [h1]
    grind
  · intro e
    have e' : (p : Rat) = b * q := by grind
    have e2 : p = b * q := by exact_mod_cast e'
    exact ratOk_unique h hb (by omega)
theorem ratOk_whole {b : Int} (h : coefOk b = true) : ratOk b 1 = true := by
  obtain ⟨h1, h2⟩ := coefOk_iff.1 h
  exact ratOk_iff.2 ⟨⟨by omega, by omega⟩, by omega, by simp⟩
/-- a number meets a bound -/
def Meets (r : Rat) (b : Int) (s : Bool) : Prop := if s = true then r < b else r ≤ b
theorem holdsB_iff {p q b : Int} {s : Bool} (h : ratOk p q = true) (hb : coefOk b = true) : holdsB p q b s = true ↔ Meets (V (p, q)) b s := by
  have hb' := ratOk_whole hb
  unfold holdsB Meets
  rw [less_V h hb', eq_V h hb']
  cases s
  · simp only [Bool.not_false, Bool.true_and, Bool.or_eq_true, decide_eq_true_eq]
    simp only [Bool.false_eq_true, if_false]
    grind
  · simp
theorem belowB_eq {p q b : Int} {s : Bool} (h : ratOk p q = true) (hb : coefOk b = true) : belowB p q b s = holdsB p q b s := by
  have hb' := ratOk_whole hb
  unfold holdsB belowB
  rw [less_V h hb', eq_V h hb', less_V' h hb']
  cases s
  · simp only [Bool.false_eq_true, if_false, Bool.not_false, Bool.true_and]
    rw [Bool.eq_iff_iff]
    simp only [Bool.not_eq_true', decide_eq_false_iff_not, Bool.or_eq_true, decide_eq_true_eq]
    grind
  · simp
theorem linAt_spec {xs : List Int} {b : Int} {s : Bool} {vs : List (Int × Int)} {so : Bool} (h : linAt xs b s vs = (so, true)) :
    linOk xs b = true ∧ valsOk vs = true ∧ (∃ p q, sumTo xs vs 4 = some (p, q) ∧ so = holdsB p q b s) ∧ (so = true ↔ Meets (dot xs vs 4) b s) := by
  unfold linAt at h
  split at h
  · rename_i hk
    rw [Bool.and_eq_true] at hk
    obtain ⟨hx, hv⟩ := hk
    split at h
    · simp at h
    · rename_i p q hs
      simp only [Prod.mk.injEq, and_true] at h
      obtain ⟨e, ht⟩ := sumTo_val hs
      refine ⟨hx, hv, ⟨p, q, hs, h.symm⟩, ?_⟩
      rw [← h, holdsB_iff ht (linOk_len hx).2.1, e]
  · simp at h
theorem linAt_no {xs : List Int} {b : Int} {s : Bool} {vs : List (Int × Int)} {so : Bool} (h : linAt xs b s vs = (so, false)) : so = false := by
  unfold linAt at h
  split at h
  · split at h
    · simpa using h.symm
    · simp at h
  · simpa using h.symm
/-! ### A constraint and its negation -/
theorem plusR_neg {s v t : Int × Int} {c : Int} (h : plusR s c v = some t) : plusR (-s.1, s.2) (-c) v = some (-t.1, t.2) := by
  obtain ⟨x, y, hm, ha⟩ := plusR_some h
  obtain ⟨hc, hv, hxy, e1⟩ := mulR_spec hm
  obtain ⟨hs, _, ht, e2⟩ := addR_spec ha
  refine plusR_of (x := -x) (y := y) ?_ ?_
  · exact mulR_of (ratOk_neg hc) hv (ratOk_neg hxy) (by grind)
  · exact addR_of (ratOk_neg hs) (ratOk_neg hxy) (ratOk_neg ht) (by grind)
theorem sumTo_neg {xs : List Int} {vs : List (Int × Int)} : ∀ {k : Nat} {t : Int × Int}, sumTo xs vs k = some t → sumTo (negs xs) vs k = some (-t.1, t.2)
  | 0, t, h => by
    simp only [sumTo, Option.some.injEq] at h
    subst h
    simp [sumTo]
  | k + 1, t, h => by
    simp only [sumTo, Option.bind_eq_some_iff] at h ⊢
    obtain ⟨s, h1, h2⟩ := h
    refine ⟨_, sumTo_neg h1, ?_⟩
    rw [negs_getD]
    exact plusR_neg h2
theorem negs_negs (xs : List Int) : negs (negs xs) = xs := by
  unfold negs
  rw [List.map_map]
  conv => rhs; rw [← List.map_id xs]
  congr 1
  funext x
  simp
theorem coefOk_neg (x : Int) : coefOk (-x) = coefOk x := by
  rw [Bool.eq_iff_iff, coefOk_iff, coefOk_iff]; omega
theorem linOk_negs (xs : List Int) (b : Int) : linOk (negs xs) (-b) = linOk xs b := by
  unfold linOk
  rw [negs_len, coefOk_neg]
  congr 1
  unfold negs
  rw [List.all_map]
  congr 1
  funext x
  exact coefOk_neg x
theorem dot_negs (xs : List Int) (vs : List (Int × Int)) : ∀ k, dot (negs xs) vs k = -dot xs vs k
  | 0 => by simp [dot]
  | k + 1 => by
    simp only [dot]
    rw [dot_negs xs vs k, negs_getD, Rat.intCast_neg]
    grind
theorem linAt_not {xs : List Int} {b : Int} {s : Bool} {vs : List (Int × Int)} {so ok no fine : Bool} (h : linAt xs b s vs = (so, ok)) (k : linAt (negs xs) (-b) (!s) vs = (no, fine)) : ok = fine ∧ (ok = true → so = !no) := by
  have hok : ok = fine := by
    unfold linAt at h k
    rw [linOk_negs] at k
    split at h
    · rename_i hc
      rw [if_pos hc] at k
      cases hs : sumTo xs vs 4 with
      | none =>
        have hn : sumTo (negs xs) vs 4 = none := by
          cases hn : sumTo (negs xs) vs 4 with
          | none => rfl
          | some t =>
            have := sumTo_neg hn
            rw [negs_negs, hs] at this
            cases this
        rw [hs] at h
        rw [hn] at k
        simp only [Prod.mk.injEq] at h k
        rw [← h.2, ← k.2]
      | some t =>
        have hn := sumTo_neg hs
        rw [hs] at h
        rw [hn] at k
        simp only [Prod.mk.injEq] at h k
        rw [← h.2, ← k.2]
    · rename_i hc
      rw [if_neg hc] at k
      simp only [Prod.mk.injEq] at h k
      rw [← h.2, ← k.2]
  refine ⟨hok, fun ht => ?_⟩
  subst hok
  subst ht
  obtain ⟨_, _, _, h1⟩ := linAt_spec h
  obtain ⟨_, _, _, h2⟩ := linAt_spec k
  rw [dot_negs] at h2
  unfold Meets at h1 h2
  rw [Rat.intCast_neg] at h2
  rw [Bool.eq_iff_iff, h1]
  cases s
  · simp only [Bool.not_false, if_true, Bool.false_eq_true, if_false] at h1 h2 ⊢
    cases no
    · simp at h2 ⊢; grind
    · simp at h2 ⊢; grind
  · simp only [Bool.not_true, if_true, Bool.false_eq_true, if_false] at h1 h2 ⊢
    cases no
    · simp at h2 ⊢; grind
    · simp at h2 ⊢; grind
/-! ### Sums -/
theorem dot_combo {m n : Int} {xs ys : List Int} (hx : xs.length = 4) (hy : ys.length = 4) (vs : List (Int × Int)) : dot (combo m xs n ys) vs 4 = m * dot xs vs 4 + n * dot ys vs 4 := by
  obtain ⟨x0, x1, x2, x3, rfl⟩ := four hx
  obtain ⟨y0, y1, y2, y3, rfl⟩ := four hy
  rw [combo_mk]
  simp only [dot, List.getD_cons_zero, List.getD_cons_succ, Rat.intCast_add, Rat.intCast_mul]
  grind
theorem meets_sum {m n b b' : Int} {s s' : Bool} {A B : Rat} (hm : 0 ≤ m) (hn : 0 ≤ n) (h1 : Meets A b s) (h2 : Meets B b' s') : Meets (m * A + n * B) (m * b + n * b') (strictOr m n s s') := by
  have hm' : (0 : Rat) ≤ m := by exact_mod_cast hm
  have hn' : (0 : Rat) ≤ n := by exact_mod_cast hn
  have l1 : A ≤ b := by unfold Meets at h1; split at h1 <;> grind
  have l2 : B ≤ b' := by unfold Meets at h2; split at h2 <;> grind
  have h3 : m * A ≤ m * b := Rat.mul_le_mul_of_nonneg_left l1 hm'
  have h4 : n * B ≤ n * b' := Rat.mul_le_mul_of_nonneg_left l2 hn'
  unfold Meets
  rw [Rat.intCast_add, Rat.intCast_mul, Rat.intCast_mul]
  split
  · rename_i hs
    unfold strictOr at hs
    simp only [Bool.or_eq_true, Bool.and_eq_true, decide_eq_true_eq] at hs
    rcases hs with ⟨hp, rfl⟩ | ⟨hp, rfl⟩
    · have hp' : (0 : Rat) < m := by exact_mod_cast hp
      unfold Meets at h1
      rw [if_pos rfl] at h1
      have : m * A < m * b := Rat.mul_lt_mul_of_pos_left h1 hp'
      grind
    · have hp' : (0 : Rat) < n := by exact_mod_cast hp
      unfold Meets at h2
      rw [if_pos rfl] at h2
      have : n * B < n * b' := Rat.mul_lt_mul_of_pos_left h2 hp'
      grind
  · grind
theorem linAt_sum {m n : Int} {xs ys : List Int} {b b' : Int} {s s' : Bool} {vs : List (Int × Int)} {r : Bool} (hk : linSumOk m xs b n ys b' = true)
    (h1 : linAt xs b s vs = (true, true)) (h2 : linAt ys b' s' vs = (true, true)) (h3 : linAt (combo m xs n ys) (m * b + n * b') (strictOr m n s s') vs = (r, true)) : r = true := by
  obtain ⟨hx, hy, ⟨hm, _⟩, ⟨hn, _⟩, _⟩ := linSumOk_iff.1 hk
  obtain ⟨_, _, _, e1⟩ := linAt_spec h1
  obtain ⟨_, _, _, e2⟩ := linAt_spec h2
  obtain ⟨_, _, _, e3⟩ := linAt_spec h3
  rw [e3, dot_combo (linOk_len hx).1 (linOk_len hy).1]
  exact meets_sum hm hn (e1.1 rfl) (e2.1 rfl)
/-! ### Contradictions -/
theorem dot_zero {xs : List Int} (hl : xs.length = 4) (h : allZero xs = true) (vs : List (Int × Int)) : dot xs vs 4 = 0 := by
  obtain ⟨x0, x1, x2, x3, rfl⟩ := four hl
  rw [allZero_mk] at h
  simp only [Bool.and_eq_true, beq_iff_eq] at h
  obtain ⟨rfl, rfl, rfl, rfl⟩ := h
  simp only [dot, List.getD_cons_zero, List.getD_cons_succ]
  have h0 : ((0 : Int) : Rat) = 0 := rfl
  rw [h0]
  grind
theorem meets_zero {b : Int} {s : Bool} : Meets 0 b s ↔ badB b s = false := by
  unfold Meets badB
  have e1 : (0 : Rat) < b ↔ 0 < b := by exact_mod_cast Iff.rfl
  have e2 : (0 : Rat) ≤ b ↔ 0 ≤ b := by exact_mod_cast Iff.rfl
  cases s
  · simp only [Bool.false_eq_true, if_false, Bool.and_false, Bool.or_false, decide_eq_false_iff_not]
    rw [e2]; omega
  · simp only [if_true, Bool.and_true, Bool.or_eq_false_iff, decide_eq_false_iff_not, beq_eq_false_iff_ne]
    rw [e1]; omega
theorem linAt_bad {xs : List Int} {b : Int} {s : Bool} {vs : List (Int × Int)} {so : Bool} (h : linAt xs b s vs = (so, true)) (k : linBad xs b s = true) : so = false := by
  obtain ⟨hx, _, _, e⟩ := linAt_spec h
  unfold linBad at k
  simp only [Bool.and_eq_true] at k
  rw [dot_zero (linOk_len hx).1 k.2.1, meets_zero] at e
  cases so
  · rfl
  · have := e.1 rfl; rw [k.2.2] at this; cases this
theorem linAt_free {xs : List Int} {b : Int} {s : Bool} {vs : List (Int × Int)} {so : Bool} (h : linAt xs b s vs = (so, true)) (k : linFree xs b s = true) : so = true := by
  obtain ⟨hx, _, _, e⟩ := linAt_spec h
  unfold linFree at k
  simp only [Bool.and_eq_true, Bool.not_eq_true'] at k
  rw [dot_zero (linOk_len hx).1 k.2.1, meets_zero] at e
  exact e.2 k.2.2
theorem allZero_negs (xs : List Int) : allZero (negs xs) = allZero xs := by
  unfold allZero negs
  rw [List.all_map]
  congr 1
  funext x
  simp only [Function.comp]
  by_cases h : x = 0
  · subst h; rfl
  · have h1 : (x == 0) = false := by simpa using h
    have h2 : (-x == 0) = false := by simpa using h
    rw [h1, h2]
theorem badB_not (b : Int) (s : Bool) : badB (-b) (!s) = !badB b s := by
  unfold badB
  rw [Bool.eq_iff_iff]
  cases s <;> simp <;> omega
theorem linBad_not (xs : List Int) (b : Int) (s : Bool) : linBad (negs xs) (-b) (!s) = linFree xs b s := by
  unfold linBad linFree; rw [linOk_negs, allZero_negs, badB_not]
theorem linFree_not (xs : List Int) (b : Int) (s : Bool) : linFree (negs xs) (-b) (!s) = linBad xs b s := by
  unfold linBad linFree; rw [linOk_negs, allZero_negs, badB_not, Bool.not_not]
theorem bad_free (xs : List Int) (b : Int) (s : Bool) : (linBad xs b s && linFree xs b s) = false := by
  unfold linBad linFree
  cases linOk xs b <;> cases allZero xs <;> cases badB b s <;> rfl
/-! ### Scaling -/
theorem linAt_twice {xs : List Int} {b : Int} {s : Bool} {vs : List (Int × Int)} {so r : Bool} (h : linAt xs b s vs = (so, true)) (k : linAt (combo 2 xs 1 [0, 0, 0, 0]) (2 * b + 1 * 0) (strictOr 2 1 s false) vs = (r, true)) : r = so := by
  obtain ⟨hx, _, _, e1⟩ := linAt_spec h
  obtain ⟨_, _, _, e2⟩ := linAt_spec k
  rw [dot_combo (linOk_len hx).1 rfl, dot_zero (xs := [0, 0, 0, 0]) rfl (by decide)] at e2
  rw [Bool.eq_iff_iff, e1, e2]
  have es : strictOr 2 1 s false = s := by cases s <;> decide
  rw [es]
  unfold Meets
  simp only [Rat.intCast_add, Rat.intCast_mul]
  cases s
  · simp only [Bool.false_eq_true, if_false]
    have h2 : ((2 : Int) : Rat) = 2 := rfl
    have h0 : ((0 : Int) : Rat) = 0 := rfl
    rw [h2, h0]
    grind
  · simp only [if_true]
    have h2 : ((2 : Int) : Rat) = 2 := rfl
    have h0 : ((0 : Int) : Rat) = 0 := rfl
    rw [h2, h0]
    grind
theorem linAt_loose {xs : List Int} {b : Int} {s : Bool} {vs : List (Int × Int)} {so : Bool} (h : linAt xs b s vs = (so, true)) : ∃ r, linAt xs b false vs = (r, true) ∧ (so = true → r = true) := by
  obtain ⟨hx, hv, ⟨p, q, hs, _⟩, e⟩ := linAt_spec h
  have h' : linAt xs b false vs = (holdsB p q b false, true) := by
    unfold linAt
    rw [hx, hv, hs]
    rfl
  refine ⟨_, h', fun ht => ?_⟩
  obtain ⟨_, _, _, e'⟩ := linAt_spec h'
  rw [e']
  have := e.1 ht
  unfold Meets at this ⊢
  simp only [Bool.false_eq_true, if_false]
  split at this <;> grind
end Go.Proofs.Ytccjbipmlpnhkaa
