/- What elimination leaves follows, and has no part at the place; in plain Lean. -/
import Derived.Test.YtccjbipmlpnhkaaLe
import Derived.Test.YtccjbipmlpnhkaaPl
namespace Go.Proofs.Ytccjbipmlpnhkaa
set_option maxRecDepth 100000
open Go.RowKit Go.ChangeShapes Go.WideShapes Go.ChangeAt
set_option linter.unusedSimpArgs false
set_option linter.unusedVariables false

theorem row_mem {rs : List RowV} {k : Nat} (hk : k < rs.length) : rs.getD k row0 ∈ rs := by
  rw [List.getD_eq_getElem?_getD, List.getElem?_eq_getElem hk]; exact List.getElem_mem hk
theorem flatTo_each {P : RowV → Prop} {rs : List RowV} {v : Nat} (h : ∀ r ∈ rs, cf r v = 0 → P r) : ∀ k, k ≤ rs.length → ∀ r ∈ flatTo rs v k, P r
  | 0, _, r, hr => by simp [flatTo] at hr
  | k + 1, hk, r, hr => by
    unfold flatTo at hr
    split at hr
    · next hc =>
      rw [List.mem_append, List.mem_singleton] at hr
      rcases hr with hr | rfl
      · exact flatTo_each h k (by omega) r hr
      · exact h _ (row_mem (by omega)) hc
    · exact flatTo_each h k (by omega) r hr
theorem stepPair_each {P : RowV → Prop} {v : Nat} {a b : RowV} {out o : List RowV} (hp : 0 < cf a v → cf b v < 0 → pairOk a b v = true → P (pairRow a b v)) (ho : ∀ r ∈ out, P r) (e : stepPair v a b out = some o) : ∀ r ∈ o, P r := by
  unfold stepPair at e
  split at e
  · next hc =>
    split at e
    · next hd =>
      obtain rfl := Option.some.inj e
      intro r hr
      rw [List.mem_append, List.mem_singleton] at hr
      rcases hr with hr | rfl
      · exact ho r hr
      · exact hp hc.1 hc.2 hd.1
    · cases e
  · obtain rfl := Option.some.inj e
    exact ho
theorem innerK_each {P : RowV → Prop} {rs : List RowV} {v : Nat} {a : RowV} {out : List RowV} (hp : ∀ b ∈ rs, 0 < cf a v → cf b v < 0 → pairOk a b v = true → P (pairRow a b v)) (ho : ∀ r ∈ out, P r) : ∀ {k : Nat} {o : List RowV}, k ≤ rs.length → innerK rs v a out k = some o → ∀ r ∈ o, P r
  | 0, o, _, e => by obtain rfl := Option.some.inj e; exact ho
  | k + 1, o, hk, e => by
    simp only [innerK, Option.bind_eq_some_iff] at e
    obtain ⟨o1, e1, e2⟩ := e
    exact stepPair_each (hp _ (row_mem (by omega))) (innerK_each hp ho (by omega) e1) e2
theorem outerK_each {P : RowV → Prop} {rs : List RowV} {v : Nat} (hf : ∀ r ∈ rs, cf r v = 0 → P r) (hp : ∀ a ∈ rs, ∀ b ∈ rs, 0 < cf a v → cf b v < 0 → pairOk a b v = true → P (pairRow a b v)) : ∀ {k : Nat} {o : List RowV}, k ≤ rs.length → outerK rs v k = some o → ∀ r ∈ o, P r
  | 0, o, _, e => by obtain rfl := Option.some.inj e; exact flatTo_each hf _ (Nat.le_refl _)
  | k + 1, o, hk, e => by
    simp only [outerK, Option.bind_eq_some_iff] at e
    obtain ⟨o1, e1, e2⟩ := e
    exact innerK_each (hp _ (row_mem (by omega))) (outerK_each hf hp (by omega) e1) (Nat.le_refl _) e2
theorem rowsOf_mem {ls : List LinV} (hs : sysOk ls = true) {r : RowV} (h : r ∈ rowsOf ls) : r.1 ∈ ls ∧ RowOk ls.length r := by
  obtain ⟨j, hj, e⟩ := List.mem_iff_getElem.1 h
  have h1 := (rowsOf_ok hs).each j hj
  rw [List.getD_eq_getElem?_getD, List.getElem?_eq_getElem hj] at h1
  simp only [Option.getD_some, e] at h1
  refine ⟨?_, h1⟩
  unfold rowsOf rowsTo at h
  obtain ⟨i, hi, rfl⟩ := List.mem_map.1 h
  exact getD_mem (List.mem_range.1 hi)
theorem less_each {P : RowV → Prop} {ls : List LinV} {u : Nat} {rs : List RowV} (e : lessRows (rowsOf ls) u = some rs) (hf : ∀ r ∈ rowsOf ls, cf r u = 0 → P r) (hp : ∀ a ∈ rowsOf ls, ∀ b ∈ rowsOf ls, 0 < cf a u → cf b u < 0 → pairOk a b u = true → P (pairRow a b u)) : ∀ r ∈ rs, P r :=
  outerK_each hf hp (Nat.le_refl _) e
/-- The two parts cancel. -/
theorem pair_zero {N : Nat} {a b : RowV} {v : Nat} (ha : RowOk N a) (hb : RowOk N b) (hv : v < 4) (h1 : 0 < cf a v) (h2 : cf b v < 0) : cf (pairRow a b v) v = 0 := by
  have la := (linOk_len ha.lin).1
  have lb := (linOk_len hb.lin).1
  have e : cf (pairRow a b v) v = qq a b v * cf a v + pp a b v * cf b v := by
    unfold cf pairRow
    exact combo_getD (by omega) (by omega)
  rw [e]
  have hg := pg_pos (b := b) h1
  have d1 : pg a b v ∣ cf a v := Int.gcd_dvd_left ..
  have d2 : pg a b v ∣ -(cf b v) := Int.gcd_dvd_right ..
  have e1 : pp a b v * pg a b v = cf a v := Int.tdiv_mul_cancel d1
  have e2 : qq a b v * pg a b v = -(cf b v) := Int.tdiv_mul_cancel d2
  have e3 : cf b v = -(qq a b v * pg a b v) := by omega
  rw [e3, ← e1]
  generalize qq a b v = q
  generalize pp a b v = p
  generalize pg a b v = g
  rw [Int.mul_neg, ← Int.mul_assoc, ← Int.mul_assoc, Int.mul_comm p q, Int.add_right_neg]
/-- What follows of two follows. -/
theorem pair_meets {N : Nat} {a b : RowV} {v : Nat} {vs : List (Int × Int)} (ha : RowOk N a) (hb : RowOk N b) (h1 : 0 < cf a v) (h2 : cf b v < 0) (m1 : Meets (dot a.1.1 vs 4) a.1.2.1 a.1.2.2) (m2 : Meets (dot b.1.1 vs 4) b.1.2.1 b.1.2.2) : Meets (dot (pairRow a b v).1.1 vs 4) (pairRow a b v).1.2.1 (pairRow a b v).1.2.2 := by
  show Meets (dot (combo (qq a b v) a.1.1 (pp a b v) b.1.1) vs 4) _ _
  rw [dot_combo (linOk_len ha.lin).1 (linOk_len hb.lin).1]
  exact meets_sum (qq_bd hb h1 h2).1 (pp_bd ha h1).1 m1 m2
theorem farLess_rows {ls : List LinV} {u : Int} {xs : List LinV} (h : farLess ls u = some xs) : sysOk ls = true ∧ (0 ≤ u ∧ u ≤ 3) ∧ ∃ rs, lessRows (rowsOf ls) u.toNat = some rs ∧ xs = rs.map (·.1) := by
  unfold farLess at h
  split at h
  · next hk =>
    rw [Bool.and_eq_true] at hk
    rw [Option.map_eq_some_iff] at h
    obtain ⟨rs, h1, h2⟩ := h
    exact ⟨hk.1, within_iff.1 hk.2, rs, h1, h2.symm⟩
  · cases h
theorem farLess_few {ls : List LinV} {u : Int} {xs : List LinV} (h : farLess ls u = some xs) : xs.length ≤ 200 := by
  obtain ⟨hs, _, rs, h1, rfl⟩ := farLess_rows h
  rw [List.length_map]
  exact (lessRows_ok (rowsOf_ok hs) h1).many
theorem farLess_lin {ls : List LinV} {u : Int} {xs : List LinV} (h : farLess ls u = some xs) {k : Nat} (hk : k < xs.length) : linOk (xs.getD k lin0).1 (xs.getD k lin0).2.1 = true := by
  obtain ⟨hs, _, rs, h1, rfl⟩ := farLess_rows h
  rw [List.length_map] at hk
  have := ((lessRows_ok (rowsOf_ok hs) h1).each k hk).lin
  rw [List.getD_eq_getElem?_getD, List.getElem?_eq_getElem hk] at this
  rw [List.getD_eq_getElem?_getD, List.getElem?_map, List.getElem?_eq_getElem hk]
  exact this
/-- What is left has no part at the place. -/
theorem farLess_zero {ls : List LinV} {u : Nat} {xs : List LinV} (h : farLess ls u = some xs) {k : Nat} (hk : k < xs.length) : (xs.getD k lin0).1.getD u 0 = 0 := by
  obtain ⟨hs, hu, rs, h1, rfl⟩ := farLess_rows h
  rw [List.length_map] at hk
  have h2 : ∀ r ∈ rs, cf r u = 0 := less_each (P := fun r => cf r u = 0) h1 (fun r _ h => h) (fun a ha b hb c1 c2 _ => pair_zero (rowsOf_mem hs ha).2 (rowsOf_mem hs hb).2 (by omega) c1 c2)
  have := h2 _ (row_mem hk)
  rw [List.getD_eq_getElem?_getD, List.getElem?_eq_getElem hk] at this
  have e : (rs.map (·.1)).getD k lin0 = (rs[k]).1 := by
    rw [List.getD_eq_getElem?_getD, List.getElem?_map, List.getElem?_eq_getElem hk]; rfl
  rw [e]
  exact this
/-- What is left is so of all numbers of which all are. -/
theorem farLess_follows {ls : List LinV} {u : Int} {xs : List LinV} {vs : List (Int × Int)} (h : farLess ls u = some xs) (hv : farAll ls vs = true) {k : Nat} (hk : k < xs.length) {so : Bool} (ha : linAt (xs.getD k lin0).1 (xs.getD k lin0).2.1 (xs.getD k lin0).2.2 vs = (so, true)) : so = true := by
  obtain ⟨hs, _, rs, h1, rfl⟩ := farLess_rows h
  rw [List.length_map] at hk
  have hm : ∀ r ∈ rowsOf ls, Meets (dot r.1.1 vs 4) r.1.2.1 r.1.2.2 := fun r hr => by
    obtain ⟨_, _, _, e⟩ := linAt_spec ((farAll_iff.1 hv).1 _ (rowsOf_mem hs hr).1)
    exact e.1 rfl
  have h2 : ∀ r ∈ rs, Meets (dot r.1.1 vs 4) r.1.2.1 r.1.2.2 := less_each (P := fun r => Meets (dot r.1.1 vs 4) r.1.2.1 r.1.2.2) h1 (fun r hr _ => hm r hr) (fun a ha b hb c1 c2 _ => pair_meets (rowsOf_mem hs ha).2 (rowsOf_mem hs hb).2 c1 c2 (hm a ha) (hm b hb))
  have h3 := h2 _ (row_mem hk)
  refine (linAt_spec ha).2.2.2.2 ?_
  rw [List.getD_eq_getElem?_getD, List.getElem?_eq_getElem hk] at h3
  rw [List.getD_eq_getElem?_getD, List.getElem?_map, List.getElem?_eq_getElem hk]
  exact h3
end Go.Proofs.Ytccjbipmlpnhkaa
