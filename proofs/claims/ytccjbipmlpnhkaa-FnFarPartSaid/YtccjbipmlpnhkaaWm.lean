/- Rows of elimination, in plain Lean. -/
import Derived.Test.YtccjbipmlpnhkaaFs
namespace Go.Proofs.Ytccjbipmlpnhkaa
set_option maxRecDepth 100000
open Go.RowKit Go.ChangeShapes Go.WideShapes Go.ChangeAt
set_option linter.unusedSimpArgs false
set_option linter.unusedVariables false

/-- a constraint, and how often it uses each of the given ones -/
abbrev RowV := LinV × List Int
def row0 : RowV := (lin0, [])
def cf (r : RowV) (v : Nat) : Int := r.1.1.getD v 0
def unitAt (n i : Nat) : List Int := (List.replicate n (0 : Int)).set i 1
def rowsTo (ls : List LinV) (k : Nat) : List RowV := (List.range k).map fun i => (ls.getD i lin0, unitAt ls.length i)
def rowsOf (ls : List LinV) : List RowV := rowsTo ls ls.length
def pg (a b : RowV) (v : Nat) : Int := (Int.gcd (cf a v) (-(cf b v)) : Int)
def pp (a b : RowV) (v : Nat) : Int := (cf a v).tdiv (pg a b v)
def qq (a b : RowV) (v : Nat) : Int := (-(cf b v)).tdiv (pg a b v)
def pairRow (a b : RowV) (v : Nat) : RowV :=
  ((combo (qq a b v) a.1.1 (pp a b v) b.1.1, qq a b v * a.1.2.1 + pp a b v * b.1.2.1, strictOr (qq a b v) (pp a b v) a.1.2.2 b.1.2.2), combo (qq a b v) a.2 (pp a b v) b.2)
def usesOk (us : List Int) : Bool := us.all fun u => decide (u ≤ 1000000)
def pairOk (a b : RowV) (v : Nat) : Bool := linSumOk (qq a b v) a.1.1 a.1.2.1 (pp a b v) b.1.1 b.1.2.1 && usesOk (combo (qq a b v) a.2 (pp a b v) b.2)
def stepPair (v : Nat) (a b : RowV) (out : List RowV) : Option (List RowV) :=
  if 0 < cf a v ∧ cf b v < 0 then (if pairOk a b v = true ∧ out.length < 200 then some (out ++ [pairRow a b v]) else none) else some out
def innerK (rs : List RowV) (v : Nat) (a : RowV) (out : List RowV) : Nat → Option (List RowV)
  | 0 => some out
  | k + 1 => (innerK rs v a out k).bind fun o => stepPair v a (rs.getD k row0) o
def flatTo (rs : List RowV) (v : Nat) : Nat → List RowV
  | 0 => []
  | k + 1 => if cf (rs.getD k row0) v = 0 then flatTo rs v k ++ [rs.getD k row0] else flatTo rs v k
def outerK (rs : List RowV) (v : Nat) : Nat → Option (List RowV)
  | 0 => some (flatTo rs v rs.length)
  | k + 1 => (outerK rs v k).bind fun o => innerK rs v (rs.getD k row0) o rs.length
def lessRows (rs : List RowV) (v : Nat) : Option (List RowV) := outerK rs v rs.length
/-- A row of elimination that is one. -/
structure RowOk (N : Nat) (r : RowV) : Prop where
  lin : linOk r.1.1 r.1.2.1 = true
  len : r.2.length = N
  uses : ∀ j, 0 ≤ r.2.getD j 0 ∧ r.2.getD j 0 ≤ 1000000
structure RowsOk (N : Nat) (rs : List RowV) : Prop where
  many : rs.length ≤ 200
  each : ∀ j, j < rs.length → RowOk N (rs.getD j row0)
theorem RowOk.cf {N : Nat} {r : RowV} (h : RowOk N r) (v : Nat) : -1000000 ≤ cf r v ∧ cf r v ≤ 1000000 := by
  obtain ⟨hl, _, ho⟩ := linOk_len h.lin
  unfold Go.Proofs.Ytccjbipmlpnhkaa.cf
  rcases Nat.lt_or_ge v 4 with hv | hv
  · exact coefOk_iff.1 (ho v hv)
  · rw [List.getD_eq_getElem?_getD, List.getElem?_eq_none (by omega)]
    simp
theorem pg_pos {a b : RowV} {v : Nat} (h : 0 < cf a v) : 0 < pg a b v := by
  unfold pg
  have := Int.gcd_pos_of_ne_zero_left (-(cf b v)) (show cf a v ≠ 0 by omega)
  omega
theorem pp_bd {N : Nat} {a b : RowV} {v : Nat} (ha : RowOk N a) (h : 0 < cf a v) : 0 ≤ pp a b v ∧ pp a b v ≤ 1000000 := by
  have h1 := ha.cf v
  have hg := pg_pos (b := b) h
  unfold pp
  rw [Int.tdiv_eq_ediv_of_nonneg (by omega)]
  exact ⟨Int.ediv_nonneg (by omega) (by omega), Int.le_trans (Int.ediv_le_self _ (by omega)) h1.2⟩
theorem qq_bd {N : Nat} {a b : RowV} {v : Nat} (hb : RowOk N b) (h : 0 < cf a v) (h' : cf b v < 0) : 0 ≤ qq a b v ∧ qq a b v ≤ 1000000 := by
  have h1 := hb.cf v
  have hg := pg_pos (b := b) h
  unfold qq
  rw [Int.tdiv_eq_ediv_of_nonneg (by omega)]
  exact ⟨Int.ediv_nonneg (by omega) (by omega), Int.le_trans (Int.ediv_le_self _ (by omega)) (by omega)⟩
theorem uses_bd {m n x y : Int} (hm : 0 ≤ m ∧ m ≤ 1000000) (hn : 0 ≤ n ∧ n ≤ 1000000) (hx : 0 ≤ x ∧ x ≤ 1000000) (hy : 0 ≤ y ∧ y ≤ 1000000) : (0 ≤ m * x ∧ m * x ≤ 1000000000000) ∧ (0 ≤ n * y ∧ n * y ≤ 1000000000000) := by
  have h1 := mul6 hm.1 hm.2 (show -1000000 ≤ x by omega) hx.2
  have h2 := mul6 hn.1 hn.2 (show -1000000 ≤ y by omega) hy.2
  exact ⟨⟨Int.mul_nonneg hm.1 hx.1, h1.2⟩, ⟨Int.mul_nonneg hn.1 hy.1, h2.2⟩⟩
theorem combo_len' {m n : Int} {xs ys : List Int} {N : Nat} (h : xs.length = N) (h' : ys.length = N) : (combo m xs n ys).length = N := by simp [combo, h, h']
theorem usesOk_no {us : List Int} {k : Nat} (hk : k < us.length) (h : 1000000 < us.getD k 0) : usesOk us = false := by
  unfold usesOk
  rw [List.all_eq_false]
  refine ⟨us.getD k 0, ?_, fun hh => by have := of_decide_eq_true hh; omega⟩
  rw [List.getD_eq_getElem?_getD, List.getElem?_eq_getElem hk]; exact List.getElem_mem hk
theorem usesOk_at {us : List Int} (h : usesOk us = true) (k : Nat) : us.getD k 0 ≤ 1000000 := by
  unfold usesOk at h
  rw [List.all_eq_true] at h
  rcases Nat.lt_or_ge k us.length with hk | hk
  · have := h (us.getD k 0) (by rw [List.getD_eq_getElem?_getD, List.getElem?_eq_getElem hk]; exact List.getElem_mem hk)
    simpa using this
  · rw [List.getD_eq_getElem?_getD, List.getElem?_eq_none hk]; decide
theorem usesOk_yes {us : List Int} (h : ∀ k, k < us.length → us.getD k 0 ≤ 1000000) : usesOk us = true := by
  unfold usesOk
  rw [List.all_eq_true]
  intro x hx
  obtain ⟨j, hj, rfl⟩ := List.mem_iff_getElem.1 hx
  have := h j hj
  rw [List.getD_eq_getElem?_getD, List.getElem?_eq_getElem hj] at this
  simpa using this
theorem combo_nn {m n : Int} {xs ys : List Int} {N : Nat} (hm : 0 ≤ m ∧ m ≤ 1000000) (hn : 0 ≤ n ∧ n ≤ 1000000) (hl : xs.length = N) (hl' : ys.length = N) (hx : ∀ j, 0 ≤ xs.getD j 0 ∧ xs.getD j 0 ≤ 1000000) (hy : ∀ j, 0 ≤ ys.getD j 0 ∧ ys.getD j 0 ≤ 1000000) (j : Nat) : 0 ≤ (combo m xs n ys).getD j 0 ∧ (combo m xs n ys).getD j 0 ≤ 2000000000000 := by
  rcases Nat.lt_or_ge j N with hj | hj
  · rw [combo_getD (by omega) (by omega)]
    have := uses_bd hm hn (hx j) (hy j)
    omega
  · rw [List.getD_eq_getElem?_getD, List.getElem?_eq_none (by rw [combo_len' hl hl']; exact hj)]; decide
theorem pairRow_ok {N : Nat} {a b : RowV} {v : Nat} (ha : RowOk N a) (hb : RowOk N b) (h1 : 0 < cf a v) (h2 : cf b v < 0) (h : pairOk a b v = true) : RowOk N (pairRow a b v) := by
  unfold pairOk at h
  rw [Bool.and_eq_true] at h
  refine ⟨(linSumOk_iff.1 h.1).2.2.2.2, combo_len' ha.len hb.len, fun j => ?_⟩
  exact ⟨(combo_nn (qq_bd hb h1 h2) (pp_bd ha h1) ha.len hb.len ha.uses hb.uses j).1, usesOk_at h.2 j⟩
theorem RowsOk.snoc {N : Nat} {rs : List RowV} {r : RowV} (h : RowsOk N rs) (hl : rs.length < 200) (hr : RowOk N r) : RowsOk N (rs ++ [r]) := by
  refine ⟨by simp; omega, fun j hj => ?_⟩
  rw [List.getD_eq_getElem?_getD]
  rcases Nat.lt_or_ge j rs.length with h1 | h1
  · rw [List.getElem?_append_left h1, ← List.getD_eq_getElem?_getD]; exact h.each j h1
  · simp at hj
    obtain rfl : j = rs.length := by omega
    simpa using hr
theorem RowsOk.nil (N : Nat) : RowsOk N [] := ⟨by simp, fun j hj => absurd hj (by simp)⟩
theorem flatTo_len (rs : List RowV) (v : Nat) : ∀ k, (flatTo rs v k).length ≤ k
  | 0 => Nat.le_refl _
  | k + 1 => by
    have := flatTo_len rs v k
    unfold flatTo
    split
    · simp; omega
    · omega
theorem flatTo_ok {N : Nat} {rs : List RowV} (h : RowsOk N rs) (v : Nat) : ∀ k, k ≤ rs.length → RowsOk N (flatTo rs v k)
  | 0, _ => RowsOk.nil N
  | k + 1, hk => by
    have ih := flatTo_ok h v k (by omega)
    unfold flatTo
    split
    · exact ih.snoc (by have := flatTo_len rs v k; have := h.many; omega) (h.each k (by omega))
    · exact ih
theorem stepPair_ok {N : Nat} {v : Nat} {a b : RowV} {out o : List RowV} (ha : RowOk N a) (hb : RowOk N b) (h : RowsOk N out) (e : stepPair v a b out = some o) : RowsOk N o := by
  unfold stepPair at e
  split at e
  · next hc =>
    split at e
    · next hd =>
      obtain rfl := Option.some.inj e
      exact h.snoc hd.2 (pairRow_ok ha hb hc.1 hc.2 hd.1)
    · cases e
  · obtain rfl := Option.some.inj e
    exact h
theorem innerK_ok {N : Nat} {rs : List RowV} {v : Nat} {a : RowV} {out : List RowV} (h : RowsOk N rs) (ha : RowOk N a) (ho : RowsOk N out) : ∀ {k : Nat} {o : List RowV}, k ≤ rs.length → innerK rs v a out k = some o → RowsOk N o
  | 0, o, _, e => by obtain rfl := Option.some.inj e; exact ho
  | k + 1, o, hk, e => by
    simp only [innerK, Option.bind_eq_some_iff] at e
    obtain ⟨o1, e1, e2⟩ := e
    exact stepPair_ok ha (h.each k (by omega)) (innerK_ok h ha ho (by omega) e1) e2
theorem outerK_ok {N : Nat} {rs : List RowV} {v : Nat} (h : RowsOk N rs) : ∀ {k : Nat} {o : List RowV}, k ≤ rs.length → outerK rs v k = some o → RowsOk N o
  | 0, o, _, e => by obtain rfl := Option.some.inj e; exact flatTo_ok h v _ (Nat.le_refl _)
  | k + 1, o, hk, e => by
    simp only [outerK, Option.bind_eq_some_iff] at e
    obtain ⟨o1, e1, e2⟩ := e
    exact innerK_ok h (h.each k (by omega)) (outerK_ok h (by omega) e1) (Nat.le_refl _) e2
theorem lessRows_ok {N : Nat} {rs o : List RowV} {v : Nat} (h : RowsOk N rs) (e : lessRows rs v = some o) : RowsOk N o := outerK_ok h (Nat.le_refl _) e
theorem innerK_none {rs : List RowV} {v : Nat} {a : RowV} {out : List RowV} {k : Nat} (h : innerK rs v a out k = none) : ∀ {m : Nat}, k ≤ m → innerK rs v a out m = none
  | 0, hm => by obtain rfl : k = 0 := by omega
                exact h
  | m + 1, hm => by
    by_cases e : k = m + 1
    · subst e; exact h
    · simp only [innerK, innerK_none h (show k ≤ m by omega), Option.bind_none]
theorem outerK_none {rs : List RowV} {v : Nat} {k : Nat} (h : outerK rs v k = none) : ∀ {m : Nat}, k ≤ m → outerK rs v m = none
  | 0, hm => by obtain rfl : k = 0 := by omega
                exact h
  | m + 1, hm => by
    by_cases e : k = m + 1
    · subst e; exact h
    · simp only [outerK, outerK_none h (show k ≤ m by omega), Option.bind_none]
theorem innerK_skip {rs : List RowV} {v : Nat} {a : RowV} {out : List RowV} (ha : ¬ 0 < cf a v) : ∀ k, innerK rs v a out k = some out
  | 0 => rfl
  | k + 1 => by
    simp only [innerK, innerK_skip ha k, Option.bind_some, stepPair]
    rw [if_neg (by omega)]
theorem rowsTo_len (ls : List LinV) (k : Nat) : (rowsTo ls k).length = k := by simp [rowsTo]
theorem rowsTo_succ (ls : List LinV) (k : Nat) : rowsTo ls (k + 1) = rowsTo ls k ++ [(ls.getD k lin0, unitAt ls.length k)] := by
  simp [rowsTo, List.range_succ]
theorem unitAt_len (n i : Nat) : (unitAt n i).length = n := by simp [unitAt]
theorem unitAt_getD (n i j : Nat) : (unitAt n i).getD j 0 = if i = j ∧ j < n then 1 else 0 := by
  unfold unitAt
  rw [List.getD_eq_getElem?_getD, List.getElem?_set]
  by_cases h : i = j
  · subst h
    by_cases hn : i < n
    · simp [hn]
    · simp [hn]
  · rw [if_neg h, if_neg (by omega), List.getElem?_replicate]
    split <;> rfl
theorem rowsOf_ok {ls : List LinV} (h : sysOk ls = true) : RowsOk ls.length (rowsOf ls) := by
  unfold sysOk at h
  rw [Bool.and_eq_true] at h
  have h20 : ls.length ≤ 20 := by simpa using h.2
  refine ⟨by unfold rowsOf; rw [rowsTo_len]; omega, fun j hj => ?_⟩
  unfold rowsOf at hj ⊢
  rw [rowsTo_len] at hj
  have e : (rowsTo ls ls.length).getD j row0 = (ls.getD j lin0, unitAt ls.length j) := by
    unfold rowsTo
    rw [List.getD_eq_getElem?_getD, List.getElem?_map, List.getElem?_range hj]; rfl
  rw [e]
  refine ⟨allLin_at h.1 hj, unitAt_len _ _, fun i => ?_⟩
  show 0 ≤ (unitAt ls.length j).getD i 0 ∧ _
  rw [unitAt_getD]
  split <;> omega
end Go.Proofs.Ytccjbipmlpnhkaa
