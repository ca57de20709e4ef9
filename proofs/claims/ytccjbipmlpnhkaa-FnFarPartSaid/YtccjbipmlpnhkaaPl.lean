/- Certificates and systems, in plain Lean. -/
import Derived.Test.YtccjbipmlpnhkaaY
import Derived.Test.YtccjbipmlpnhkaaFs
import Derived.Test.YtccjbipmlpnhkaaWx
namespace Go.Proofs.Ytccjbipmlpnhkaa
set_option maxRecDepth 100000
open Go.RowKit Go.ChangeShapes Go.WideShapes Go.ChangeAt
set_option linter.unusedSimpArgs false
set_option linter.unusedVariables false

theorem sysOk_iff {ls : List LinV} : sysOk ls = true ↔ (∀ l ∈ ls, linOk l.1 l.2.1 = true) ∧ ls.length ≤ 20 := by
  simp [sysOk, allLin]
theorem getD_mem {ls : List LinV} {k : Nat} (hk : k < ls.length) : ls.getD k lin0 ∈ ls := by
  rw [List.getD_eq_getElem?_getD, List.getElem?_eq_getElem hk]; exact List.getElem_mem hk
theorem farOk_len {ls : List LinV} {ts : List Int} (h : farOk ls ts = true) : sysOk ls = true ∧ ts.length = ls.length := by
  unfold farOk at h
  cases hf : farSum ls ts with
  | none => rw [hf] at h; cases h
  | some x =>
    unfold farSum at hf
    split at hf
    · next hk => simp only [Bool.and_eq_true, decide_eq_true_eq] at hk; exact hk
    · cases hf
theorem farOk_sum {ls : List LinV} {ts : List Int} (h : farOk ls ts = true) : ∃ zs b s, sumK ls ts ls.length = some (zs, b, s) ∧ linBad zs b s = true := by
  obtain ⟨h1, h2⟩ := farOk_len h
  unfold farOk at h
  rw [farSum_go h1 h2] at h
  cases hf : sumK ls ts ls.length with
  | none => rw [hf] at h; cases h
  | some x => rw [hf] at h; exact ⟨x.1, x.2.1, x.2.2, rfl, h⟩
theorem run_no' {ls : List LinV} {ts : List Int} (h : farRun ls = .no ts) : farOk ls ts = true := by
  unfold farRun at h
  split at h
  · split at h
    · cases h
    · unfold farEnd at h
      split at h
      · split at h
        · next hf => injection h with e; subst e; exact hf
        · cases h
      · split at h
        · cases h
        · split at h <;> cases h
  · cases h
theorem run_yes' {ls : List LinV} {vs : List (Int × Int)} (h : farRun ls = .yes vs) : farAll ls vs = true := by
  unfold farRun at h
  split at h
  · split at h
    · cases h
    · unfold farEnd at h
      split at h
      · split at h <;> cases h
      · split at h
        · cases h
        · split at h
          · next hf => injection h with e; subst e; exact hf
          · cases h
  · cases h
theorem run_form' {ls : List LinV} : farRun ls = .form ↔ sysOk ls = false := by
  unfold farRun
  split
  · next hs =>
    rw [hs]
    refine ⟨fun h => ?_, fun h => by cases h⟩
    split at h
    · cases h
    · unfold farEnd at h
      split at h
      · split at h <;> cases h
      · split at h
        · cases h
        · split at h <;> cases h
  · next hs => simp [hs]
theorem farAll_iff {ls : List LinV} {vs : List (Int × Int)} : farAll ls vs = true ↔ (∀ l ∈ ls, linAt l.1 l.2.1 l.2.2 vs = (true, true)) ∧ sysOk ls = true ∧ valsOk vs = true := by
  simp only [farAll, Bool.and_eq_true, List.all_eq_true, beq_iff_eq]
theorem linOk_zero : linOk [0, 0, 0, 0] 0 = true := by decide
theorem sumStep_some {a : LinV} {t : Int} {l x : LinV} (h : sumStep a t l = some x) : linSumOk 1 a.1 a.2.1 t l.1 l.2.1 = true ∧ x = (combo 1 a.1 t l.1, 1 * a.2.1 + t * l.2.1, strictOr 1 t a.2.2 l.2.2) := by
  unfold sumStep at h
  split at h
  · next hk => exact ⟨hk, (Option.some.inj h).symm⟩
  · cases h
theorem sumK_some {ls : List LinV} {ts : List Int} {k : Nat} {x : LinV} (h : sumK ls ts (k + 1) = some x) : ∃ a, sumK ls ts k = some a ∧ sumStep a (ts.getD k 0) (ls.getD k lin0) = some x := by
  simp only [sumK, Option.bind_eq_some_iff] at h
  exact h
theorem sumK_lin {ls : List LinV} {ts : List Int} : ∀ {k : Nat} {x : LinV}, sumK ls ts k = some x → linOk x.1 x.2.1 = true
  | 0, x, h => by obtain rfl := Option.some.inj h; exact linOk_zero
  | k + 1, x, h => by
    obtain ⟨a, h1, h2⟩ := sumK_some h
    obtain ⟨hk, rfl⟩ := sumStep_some h2
    exact (linSumOk_iff.1 hk).2.2.2.2
theorem sumK_times {ls : List LinV} {ts : List Int} : ∀ {k : Nat} {x : LinV}, sumK ls ts k = some x → ∀ j, j < k → 0 ≤ ts.getD j 0 ∧ ts.getD j 0 ≤ 1000000
  | 0, x, h, j, hj => absurd hj (by omega)
  | k + 1, x, h, j, hj => by
    obtain ⟨a, h1, h2⟩ := sumK_some h
    obtain ⟨hk, rfl⟩ := sumStep_some h2
    by_cases e : j = k
    · subst e; exact (linSumOk_iff.1 hk).2.2.2.1
    · exact sumK_times h1 j (by omega)
/-- What follows is so of all numbers of which all are. -/
theorem sumK_sound {ls : List LinV} {ts : List Int} {vs : List (Int × Int)} : ∀ {k : Nat} {x : LinV}, (∀ j, j < k → linAt (ls.getD j lin0).1 (ls.getD j lin0).2.1 (ls.getD j lin0).2.2 vs = (true, true)) → sumK ls ts k = some x → Meets (dot x.1 vs 4) x.2.1 x.2.2
  | 0, x, _, h => by
    obtain rfl := Option.some.inj h
    show Meets (dot [0, 0, 0, 0] vs 4) 0 false
    rw [dot_zero (by rfl) (by decide), meets_zero]
    decide
  | k + 1, x, hv, h => by
    obtain ⟨a, h1, h2⟩ := sumK_some h
    obtain ⟨hk, rfl⟩ := sumStep_some h2
    obtain ⟨hx, hy, ⟨hm, _⟩, ⟨hn, _⟩, _⟩ := linSumOk_iff.1 hk
    obtain ⟨_, _, _, e2⟩ := linAt_spec (hv k (by omega))
    show Meets (dot (combo 1 a.1 _ _) vs 4) _ _
    rw [dot_combo (linOk_len hx).1 (linOk_len hy).1]
    exact meets_sum hm hn (sumK_sound (fun j hj => hv j (by omega)) h1) (e2.1 rfl)
/-- never both -/
theorem never_both {ls : List LinV} {ts : List Int} {vs : List (Int × Int)} (hv : ∀ l ∈ ls, linAt l.1 l.2.1 l.2.2 vs = (true, true)) (h : farOk ls ts = true) : False := by
  obtain ⟨zs, b, s, hs, hb⟩ := farOk_sum h
  have hm := sumK_sound (vs := vs) (fun j hj => hv _ (getD_mem hj)) hs
  unfold linBad at hb
  simp only [Bool.and_eq_true] at hb
  rw [dot_zero (linOk_len hb.1).1 hb.2.1, meets_zero] at hm
  rw [hb.2.2] at hm; cases hm
theorem sum_follows {ls : List LinV} {ts : List Int} {vs : List (Int × Int)} {x : LinV} {so : Bool} (hv : ∀ l ∈ ls, linAt l.1 l.2.1 l.2.2 vs = (true, true)) (h : farSum ls ts = some x) (ha : linAt x.1 x.2.1 x.2.2 vs = (so, true)) : so = true := by
  unfold farSum at h
  split at h
  · have hm := sumK_sound (vs := vs) (fun j hj => hv _ (getD_mem hj)) h
    exact (linAt_spec ha).2.2.2.2 hm
  · cases h
theorem sysOk_take {ls : List LinV} (k : Nat) (h : sysOk ls = true) : sysOk (ls.take k) = true := by
  rw [sysOk_iff] at *
  refine ⟨fun l hl => h.1 l (List.mem_of_mem_take hl), ?_⟩
  rw [List.length_take]; omega
theorem farAll_take {ls : List LinV} {vs : List (Int × Int)} (k : Nat) (h : farAll ls vs = true) : farAll (ls.take k) vs = true := by
  rw [farAll_iff] at *
  exact ⟨fun l hl => h.1 l (List.mem_of_mem_take hl), sysOk_take k h.2.1, h.2.2⟩
theorem sumK_more {ls ms : List LinV} {ts us : List Int} (ht : ts.length = ls.length) : ∀ {k : Nat}, k ≤ ls.length → sumK (ls ++ ms) (ts ++ us) k = sumK ls ts k
  | 0, _ => rfl
  | k + 1, hk => by
    simp only [sumK]
    rw [sumK_more ht (by omega)]
    have e1 : (ts ++ us).getD k 0 = ts.getD k 0 := by rw [List.getD_eq_getElem?_getD, List.getElem?_append_left (by omega), ← List.getD_eq_getElem?_getD]
    have e2 : (ls ++ ms).getD k lin0 = ls.getD k lin0 := by rw [List.getD_eq_getElem?_getD, List.getElem?_append_left (by omega), ← List.getD_eq_getElem?_getD]
    rw [e1, e2]
/-- one more that says nothing -/
theorem farOk_free {ls : List LinV} {ts : List Int} (h : farOk ls ts = true) (hl : ls.length < 20) : farOk (ls ++ [([0, 0, 0, 0], 1, false)]) (ts ++ [0]) = true := by
  obtain ⟨zs, b, s, hs, hb⟩ := farOk_sum h
  obtain ⟨h1, h2⟩ := farOk_len h
  have hsys : sysOk (ls ++ [([0, 0, 0, 0], 1, false)]) = true := by
    rw [sysOk_iff] at *
    refine ⟨fun l hm => ?_, by simp; omega⟩
    rw [List.mem_append, List.mem_singleton] at hm
    rcases hm with hm | rfl
    · exact h1.1 l hm
    · decide
  unfold farOk
  rw [farSum_go hsys (by simp [h2])]
  have hlin := sumK_lin hs
  obtain ⟨x0, x1, x2, x3, e, _⟩ := linOk_four hlin
  have e : zs = [x0, x1, x2, x3] := e
  subst e
  have hc : combo 1 [x0, x1, x2, x3] 0 [0, 0, 0, 0] = [x0, x1, x2, x3] := by rw [combo_mk]; simp
  have hb1 : 1 * b + 0 * 1 = b := by omega
  have hstep : sumStep ([x0, x1, x2, x3], b, s) 0 ([0, 0, 0, 0], 1, false) = some ([x0, x1, x2, x3], b, s) := by
    have hk : linSumOk 1 [x0, x1, x2, x3] b 0 [0, 0, 0, 0] 1 = true := linSumOk_iff.2 ⟨hlin, by decide, by omega, by omega, by rw [hc, hb1]; exact hlin⟩
    unfold sumStep
    rw [if_pos hk, hc]
    show some ([x0, x1, x2, x3], 1 * b + 0 * 1, strictOr 1 0 s false) = _
    rw [hb1]
    cases s <;> simp [strictOr]
  have e1 : (ts ++ [0]).getD ls.length 0 = 0 := by rw [List.getD_eq_getElem?_getD, ← h2]; simp
  have e2 : (ls ++ [(([0, 0, 0, 0], 1, false) : LinV)]).getD ls.length lin0 = ([0, 0, 0, 0], 1, false) := by rw [List.getD_eq_getElem?_getD]; simp
  have : sumK (ls ++ [([0, 0, 0, 0], 1, false)]) (ts ++ [0]) (ls ++ [(([0, 0, 0, 0], 1, false) : LinV)]).length = some ([x0, x1, x2, x3], b, s) := by
    rw [List.length_append, List.length_singleton]
    simp only [sumK]
    rw [sumK_more h2 (Nat.le_refl _), hs, Option.bind_some, e1, e2, hstep]
  rw [this]
  exact hb
theorem getD_twice (ts : List Int) (k : Nat) : (ts.map (2 * ·)).getD k 0 = 2 * ts.getD k 0 := by
  rw [List.getD_eq_getElem?_getD, List.getD_eq_getElem?_getD, List.getElem?_map]
  cases ts[k]? <;> simp
/-- taken twice as often -/
theorem sumK_twice {ls : List LinV} {ts : List Int} : ∀ {k : Nat} {x y : LinV}, sumK ls ts k = some x → sumK ls (ts.map (2 * ·)) k = some y → y = (x.1.map (2 * ·), 2 * x.2.1, x.2.2)
  | 0, x, y, h, h' => by
    obtain rfl := Option.some.inj h
    obtain rfl := Option.some.inj h'
    rfl
  | k + 1, x, y, h, h' => by
    obtain ⟨a, h1, h2⟩ := sumK_some h
    obtain ⟨hk, rfl⟩ := sumStep_some h2
    obtain ⟨a', h1', h2'⟩ := sumK_some h'
    obtain ⟨hk', rfl⟩ := sumStep_some h2'
    obtain rfl := sumK_twice h1 h1'
    rw [getD_twice]
    obtain ⟨hx, hy, ⟨hm, _⟩, ⟨hn, _⟩, _⟩ := linSumOk_iff.1 hk
    obtain ⟨x0, x1, x2, x3, ex, _⟩ := linOk_four hx
    obtain ⟨y0, y1, y2, y3, ey, _⟩ := linOk_four hy
    generalize ts.getD k 0 = t at *
    generalize ls.getD k lin0 = l at *
    obtain ⟨xs, b, s⟩ := a
    obtain ⟨ys, b', s'⟩ := l
    have ex : xs = [x0, x1, x2, x3] := ex
    have ey : ys = [y0, y1, y2, y3] := ey
    subst ex ey
    have hst : strictOr 1 (2 * t) s s' = strictOr 1 t s s' := by
      unfold strictOr
      have : decide (0 < 2 * t) = decide (0 < t) := by rw [decide_eq_decide]; omega
      rw [this]
    show (combo 1 ([x0, x1, x2, x3].map (2 * ·)) (2 * t) [y0, y1, y2, y3], 1 * (2 * b) + 2 * t * b', strictOr 1 (2 * t) s s') = ((combo 1 [x0, x1, x2, x3] t [y0, y1, y2, y3]).map (2 * ·), 2 * (1 * b + t * b'), strictOr 1 t s s')
    rw [hst]
    simp only [List.map_cons, List.map_nil, combo_mk, Prod.mk.injEq, List.cons.injEq, and_true]
    simp only [Int.one_mul, Int.mul_add, Int.mul_assoc, and_self, and_true]
theorem farSum_twice {ls : List LinV} {ts : List Int} (h : farOk ls ts = true) {y : LinV} (h' : farSum ls (ts.map (2 * ·)) = some y) : linBad y.1 y.2.1 y.2.2 = true := by
  obtain ⟨zs, b, s, hs, hb⟩ := farOk_sum h
  obtain ⟨h1, h2⟩ := farOk_len h
  rw [farSum_go h1 (by simp [h2])] at h'
  have hy := sumK_lin h'
  obtain rfl := sumK_twice hs h'
  unfold linBad at hb ⊢
  simp only [Bool.and_eq_true] at hb ⊢
  refine ⟨hy, ?_, ?_⟩
  · have h0 := hb.2.1
    unfold allZero at *
    simp only [List.all_eq_true, beq_iff_eq] at h0
    simp only [List.all_map, List.all_eq_true, Function.comp, beq_iff_eq]
    intro x hx; rw [h0 x hx]; rfl
  · have h0 := hb.2.2
    unfold badB at *
    simp only [Bool.or_eq_true, decide_eq_true_eq, Bool.and_eq_true, beq_iff_eq] at h0 ⊢
    rcases h0 with h0 | ⟨h0, hs⟩
    · left; omega
    · right; exact ⟨by omega, hs⟩
/-- all are so just if each is -/
theorem farAll_each {ls : List LinV} {vs : List (Int × Int)} : farAll ls vs = (decide (ls.length ≤ 20) && decide (vs.length = 4) && vs.all (fun v => ratOk v.1 v.2) && ls.all (fun l => (linAt l.1 l.2.1 l.2.2 vs).2 && (linAt l.1 l.2.1 l.2.2 vs).1)) := by
  rw [Bool.eq_iff_iff, farAll_iff]
  simp only [Bool.and_eq_true, List.all_eq_true, decide_eq_true_eq, sysOk_iff, valsOk]
  constructor
  · rintro ⟨h1, ⟨h2, h3⟩, h4, h5⟩
    exact ⟨⟨⟨h3, h5⟩, h4⟩, fun l hl => by rw [h1 l hl]; exact ⟨rfl, rfl⟩⟩
  · rintro ⟨⟨⟨h3, h5⟩, h4⟩, h1⟩
    have h1' : ∀ l ∈ ls, linAt l.1 l.2.1 l.2.2 vs = (true, true) := fun l hl => by
      have := h1 l hl
      exact Prod.ext this.2 this.1
    exact ⟨h1', ⟨fun l hl => (linAt_spec (h1' l hl)).1, h3⟩, h4, h5⟩
theorem run_nil : farRun [] = .yes [(0, 1), (0, 1), (0, 1), (0, 1)] := by kernel_rfl
theorem farOk_nil : farOk [] [] = false := by decide
theorem farAll_nil (vs : List (Int × Int)) : farAll [] vs = valsOk vs := by simp [farAll, sysOk, allLin]
end Go.Proofs.Ytccjbipmlpnhkaa
