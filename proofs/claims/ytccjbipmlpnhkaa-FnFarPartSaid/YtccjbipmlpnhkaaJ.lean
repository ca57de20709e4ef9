/- Draws of points. -/
import Derived.Test.YtccjbipmlpnhkaaO
namespace Go.Proofs.Ytccjbipmlpnhkaa
set_option maxRecDepth 100000
open Go.RowKit Go.ChangeShapes Go.WideShapes Go.ChangeAt
set_option linter.unusedSimpArgs false
set_option linter.unusedVariables false

/-- the cells of a row of fractions -/
def flat (vs : List (Int × Int)) : List Value := vs.flatMap fun v => [.int .i64 v.1, .int .i64 v.2]
theorem flat_snoc (vs : List (Int × Int)) (x y : Int) : flat (vs ++ [(x, y)]) = flat vs ++ [.int .i64 x, .int .i64 y] := by simp [flat]
theorem flat_len : ∀ vs : List (Int × Int), (flat vs).length = vs.length * 2
  | [] => rfl
  | v :: vs => by
    have := flat_len vs
    simp only [flat, List.flatMap_cons, List.length_append, List.length_cons, List.length_nil] at this ⊢
    omega
theorem flat_get : ∀ (vs : List (Int × Int)) (i : Nat), i < vs.length → (flat vs)[i * 2]? = some (.int .i64 (vs.getD i (0, 0)).1) ∧ (flat vs)[i * 2 + 1]? = some (.int .i64 (vs.getD i (0, 0)).2)
  | [], i, h => absurd h (by simp)
  | v :: vs, 0, _ => by simp [flat]
  | v :: vs, i + 1, h => by
    have := flat_get vs i (by simpa using h)
    have e : flat (v :: vs) = .int .i64 v.1 :: .int .i64 v.2 :: flat vs := rfl
    rw [e, show (i + 1) * 2 = i * 2 + 1 + 1 by omega, List.getElem?_cons_succ, List.getElem?_cons_succ, List.getElem?_cons_succ, List.getElem?_cons_succ, List.getD_cons_succ]
    exact this
/-- A row of fractions that the draw has made. -/
structure RowR (w : World) (B : Nat) (v : Value) (n : Nat) (vs : List (Int × Int)) : Prop where
  own : w.ownsRow B 82 2 v n (flat vs)
  rng : ∀ j, J64 (vs.getD j (0, 0)).1 ∧ J64 (vs.getD j (0, 0)).2
theorem RowR.len {w : World} {B n : Nat} {v : Value} {vs : List (Int × Int)} (h : RowR w B v n vs) : vs.length = n := by
  have := h.own.1; rw [flat_len] at this; omega
theorem RowR.rats {w : World} {B q n c : Nat} {vs : List (Int × Int)} (h : RowR w B (.slice (some ⟨q, 0, none⟩) n c) n vs) (hn : n ≤ 1000000) : Rats w (some ⟨q, 0, none⟩) n vs := by
  have hl := h.len
  refine ⟨hl, fun _ => ⟨q, 0, rfl, (h.own.lt q rfl).2, fun j hj => ?_⟩, h.rng, by omega⟩
  have := flat_get vs j (by omega)
  rw [Nat.zero_add, h.own.cellAt _ (by omega), h.own.cellAt _ (by omega)]
  exact this
theorem RowR.lt {w : World} {B q n c : Nat} {vs : List (Int × Int)} (h : RowR w B (.slice (some ⟨q, 0, none⟩) n c) n vs) : B ≤ q ∧ q < w.heap.size := h.own.lt q rfl
theorem RowR.only {w w' : World} {B n g : Nat} {v : Value} {vs : List (Int × Int)} (h : RowR w B v n vs) (ho : Only g w w') (hg : g < B) : RowR w' B v n vs :=
  ⟨h.own.kept ho (.inr (fun e => by have := (h.own.lt g e).1; omega)), h.rng⟩
theorem RowR.alloc {w : World} {B n : Nat} {v : Value} {vs : List (Int × Int)} (h : RowR w B v n vs) (o : Obj) : RowR (w.alloc o) B v n vs := ⟨h.own.alloc o, h.rng⟩
theorem RowR.later {w w' : World} {B n : Nat} {v : Value} {vs : List (Int × Int)} (h : RowR w B v n vs) (hb : Below w.heap.size w w') : RowR w' B v n vs :=
  ⟨h.own.kept (row := none) ⟨hb.os, hb.tape, hb.output, hb.size, fun i hi _ => hb.block i hi⟩ (by cases hv : v.ownBlock <;> simp), h.rng⟩
theorem RowR.far {w : World} {B n : Nat} {v u : Value} {vs : List (Int × Int)} (h : RowR w B v n vs) {p : Addr} (hp : v.ownBlock ≠ some p.block) : RowR (w.setCell p u) B v n vs :=
  ⟨Go.ownsRow_setCell_other h.own hp u, h.rng⟩
theorem RowR.cap {w : World} {B q n c : Nat} {vs : List (Int × Int)} (h : RowR w B (.slice (some ⟨q, 0, none⟩) n c) n vs) (hn : 0 < n) : n ≤ c ∧ c ≤ maxLen := by
  rcases h.own.2 with ⟨e, _⟩ | ⟨g', cap', cur, e, _, _, h1, h2, _⟩
  · simp at e
  · simp only [Value.slice.injEq, true_and] at e
    obtain ⟨_, rfl⟩ := e
    exact ⟨h1, h2⟩
theorem set_rng2 {v : Int × Int} {vs : List (Int × Int)} {x y : Int} (h : ∀ j, J64 ((v :: vs).getD j (0, 0)).1 ∧ J64 ((v :: vs).getD j (0, 0)).2) (hx : J64 x) (hy : J64 y) : ∀ j, J64 (((x, y) :: vs).getD j (0, 0)).1 ∧ J64 (((x, y) :: vs).getD j (0, 0)).2
  | 0 => ⟨hx, hy⟩
  | j + 1 => by
    have := h (j + 1)
    simpa [List.getD_eq_getElem?_getD] using this
theorem RowR.stored0 {w : World} {B q n c : Nat} {vs : List (Int × Int)} {x y : Int} (h : RowR w B (.slice (some ⟨q, 0, none⟩) n c) n vs) (hn : 0 < n) (hx : J64 x) (hy : J64 y) :
    RowR ((w.setCell ⟨q, 0, none⟩ (.int .i64 x)).setCell ⟨q, 1, none⟩ (.int .i64 y)) B (.slice (some ⟨q, 0, none⟩) n c) n ((x, y) :: vs.drop 1) := by
  have hl := h.len
  match vs, h, hl with
  | [], _, hl => simp at hl; omega
  | v :: vs, h, hl =>
    have h1 := (h.own.stored 0 (.int .i64 x)).1
    have h2 := (h1.stored 1 (.int .i64 y)).1
    exact ⟨h2, set_rng2 h.rng hx hy⟩
theorem rat_info : (Try.prog.info? 82).map (fun i => (i.zero, i.size, i.bytes)) = some (some (.agg #[.int .i64 0, .int .i64 0]), 2, 16) := by kernel_rfl
theorem own_empty2 {W : World} {E base : Nat} (hE : W.heap.size = E) (hb : base ≤ E) : (W.alloc (.cells #[] 82)).ownsRow base 82 2 (.slice (some ⟨E, 0, none⟩) 0 0) 0 [] := by
  subst hE
  exact World.ownsRow_lit W #[] 0 hb (by simp) rfl
theorem Rats.drop1 {w : World} {q o n : Nat} {vs : List (Int × Int)} (h : Rats w (some ⟨q, o, none⟩) (n + 1) vs) : Rats w (some ⟨q, o + 2, none⟩) n (vs.drop 1) :=
  ⟨by have := h.len; simp; omega, fun hn => by
    obtain ⟨b, o', e, hb, hc⟩ := h.cells (by omega)
    injection e with e; injection e with e1 e2
    subst e1 e2
    refine ⟨_, _, rfl, hb, fun j hj => ?_⟩
    have := hc (j + 1) (by omega)
    rw [show o + 2 + j * 2 = o + (j + 1) * 2 by omega, this.1, this.2]
    simp [List.getD_eq_getElem?_getD, Nat.add_comm], fun j => by
    have := h.rng (j + 1)
    simpa [List.getD_eq_getElem?_getD, Nat.add_comm] using this, by have := h.few; omega⟩

/-- Numbers were drawn. -/
def NumsBack (g : Nat) (A : Option Addr) (cap : Nat) (bs : List UInt8) (p k : Nat) (w : World) (e : Ending) (w' : World) : Prop :=
  ∃ (vs : List (Int × Int)) (q o n c : Nat), e = .returned (.slice (some ⟨q, o, none⟩) n c) ∧ (Rats w' (some ⟨q, o, none⟩) n vs ∧ (3 ≤ n ∧ n ≤ 4) ∧ w.heap.size ≤ q) ∧ Moved g A cap bs p k w w'
theorem snoc_rng2 {vs : List (Int × Int)} {x y : Int} (h : ∀ j, J64 (vs.getD j (0, 0)).1 ∧ J64 (vs.getD j (0, 0)).2) (hx : J64 x) (hy : J64 y) (j : Nat) : J64 ((vs ++ [(x, y)]).getD j (0, 0)).1 ∧ J64 ((vs ++ [(x, y)]).getD j (0, 0)).2 := by
  rw [List.getD_eq_getElem?_getD]
  rcases Nat.lt_or_ge j vs.length with hj | hj
  · rw [List.getElem?_append_left hj, ← List.getD_eq_getElem?_getD]; exact h j
  · rw [List.getElem?_append_right hj]
    cases h0 : j - vs.length with
    | zero => exact ⟨hx, hy⟩
    | succ m => simp [J64]
theorem news_at {W : World} {E : Nat} {x y : Int} {t : TypeId} (hE : W.heap.size = E) : ∀ j u, [Value.int .i64 x, .int .i64 y][j]? = some u → (W.alloc (.cells #[.int .i64 x, .int .i64 y] t)).cell? ((⟨E, 0, none⟩ : Addr).add j) = some u := by
  subst hE
  exact World.news_of_block (cs := #[.int .i64 x, .int .i64 y]) (t := t) (fr := (0, 0)) (heap_alloc_new _ _)
set_option maxHeartbeats 4000000 in
theorem l2Numbers_any {g : Nat} {A : Option Addr} {cap : Nat} {bs : List UInt8} {p : Nat} {w : World} (h : Rd w g A cap bs p) (hp : p ≤ 500000) :
    Calls Try.prog 68 #[.pointer (some ⟨g, 0, none⟩)] w (NumsBack g A cap bs p 20 w) := by
  have hg := h.lt
  obtain ⟨j0, hj, yj0, yj1, yj2⟩ := info_parts rat_info
  go_enter Try.func68, Try.ntmps68
  go_wp2_with fail
  go_loopw [3, 4] (fun v0 i wr => ∃ (k : Nat) (v : Value) (vs : List (Int × Int)) (pp : Nat), k ≤ 4 ∧ i = .int .i64 k ∧ v = v0 ∧ RowR wr w.heap.size v k vs ∧ Rd wr g A cap bs pp ∧ pp ≤ p + 2 * k ∧ Kept w.heap.size g w wr) (fun _ i _ => 4 - (intOf i).toNat)
  case atStart => exact ⟨0, _, [], p, by omega, rfl, rfl, ⟨own_empty2 rfl (Nat.le_refl _), fun j => by simp [J64]⟩, h.alloc _, by omega, (Kept.refl _ _ _).alloc (Nat.le_refl _) _⟩
  case round =>
    obtain ⟨k, v, vs, pp, hk, rfl, rfl, hrow, hR, hpp, hK⟩ := hrel
    clear h
    have hgw := hR.lt
    have hsz := hK.size
    by_cases hlt : k < 4
    · go_wp2_with fail
      (with_reducible refine (num_any [0, 1, -1, 2, 3, -5, 7] wr.heap.size 0 7 7 (hR.alloc _) (by omega) (by decide) (by decide) (by decide) (by omega) (fun j hj => ?_)).mono ?_)
      · exact alloc_list wr [0, 1, -1, 2, 3, -5, 7] 3 j hj
      rintro e w1 ⟨nn, rfl, h1⟩
      have hs1 := h1.only.size
      simp only [World.size_alloc] at hs1
      have hR1 := h1.rd
      have hrow1 := (hrow.alloc _).only h1.only (by omega)
      have hK1 := (hK.alloc (by omega) _).then_only h1.only (by simp; omega)
      clear h1 hrow hR hK
      go_wp2_with fail
      (with_reducible refine (num_any [1, 1, 2, 3] w1.heap.size 0 4 4 (hR1.alloc _) (by omega) (by decide) (by decide) (by decide) (by omega) (fun j hj => ?_)).mono ?_)
      · exact alloc_list w1 [1, 1, 2, 3] 3 j hj
      rintro e w2 ⟨dd, rfl, h2⟩
      have hs2 := h2.only.size
      simp only [World.size_alloc] at hs2
      have hR2 := h2.rd
      have hrow2 := (hrow1.alloc _).only h2.only (by omega)
      have hK2 := (hK1.alloc (by omega) _).then_only h2.only (by simp; omega)
      clear h2 hrow1 hR1 hK1
      obtain ⟨X, Y, t, hX⟩ : ∃ X Y b, ofR nn dd = (X, Y, b) := ⟨_, _, _, rfl⟩
      have HX := Lib.hid hX
      clear hX
      go_wp2_with fail
      refine (sRatOf_any nn dd X Y t HX _).mono ?_
      rintro e w3 ⟨rfl, hb1⟩
      have hs3 := hb1.size
      have hR3 := hR2.grown hb1
      have hrow3 := hrow2.later hb1
      have hK3 := hK2.below hb1 (by omega)
      clear hb1 hrow2 hR2 hK2
      have hgw3 := hR3.lt
      have hsz3 := hK3.size
      cases t
      · go_wp2_with (first | (at_builtin; refine wpList_append_lies _ (by rfl) (.tmp 25) (.tmp 27) _ (by rfl) w.heap.size 82 j0 _ 2 16 Try.underlying28 hj yj0 yj1 yj2 rfl (by omega) v k _ (by rfl) ((hrow3.alloc _).alloc _).own ⟨w3.heap.size + 1, 0, none⟩ 1 1 [.int .i64 0, .int .i64 1] (by rfl) (by rfl) (news_at (by first | omega | (simp; done) | (simp; omega))) (by simp [Value.oneCell']) (by omega) (by unfold maxLen; omega) (by omega) (by first | omega | (simp; done) | (simp; omega)) (w3.heap.size + 1 + 1) (by simp) ?_; intro g' cap' wq hown3 hgrow hat hlt2; have hrow4 : RowR wq w.heap.size (.slice (some ⟨g', 0, none⟩) (k + 1) cap') (k + 1) (vs ++ [(0, 1)]) := ⟨by rw [flat_snoc]; exact hown3, snoc_rng2 hrow3.rng (by unfold J64; omega) (by unfold J64; omega)⟩; have hR4 : Rd wq g A cap bs (pp + 1 + 1) := Rd.aside (by (repeat (first | with_reducible exact hR3 | refine Rd.far ?_ (by first | omega | (simp; done) | (simp; omega)) _ | refine Rd.alloc ?_ _ | refine Rd.drewN ?_ _ | refine Rd.drew ?_))) hgrow (fun j hj => by have := (hrow3.own.lt j hj).1; omega); have hK4 : Kept w.heap.size g w wq := Kept.grown (by (repeat (first | with_reducible exact hK3 | (with_reducible refine Kept.set ?_ (by first | omega | (simp; done) | (simp; omega)) _) | (with_reducible refine Kept.alloc ?_ (by first | omega | (simp; done) | (simp; omega)) _) | (with_reducible refine Kept.drewN ?_ _) | (with_reducible refine Kept.drew ?_)))) hgrow (by first | omega | (simp; done) | (simp; omega)) (fun j hj => (hrow3.own.lt j hj).1); clear hown3 hgrow hat hlt2 hrow3 hR3 hK3))
        go_roundw
        case rel => exact ⟨k + 1, _, _, pp + 1 + 1, by omega, by go_num, rfl, hrow4, hR4, by omega, hK4⟩
        case measure => simp [intOf]; omega
      · have hIX : J64 X := (i64_ok (ofR_ok HX.out)).1
        have hIY : J64 Y := (i64_ok (ofR_ok HX.out)).2
        go_wp2_with (first | (at_builtin; refine wpList_append_lies _ (by rfl) (.tmp 25) (.tmp 27) _ (by rfl) w.heap.size 82 j0 _ 2 16 Try.underlying28 hj yj0 yj1 yj2 rfl (by omega) v k _ (by rfl) ((hrow3.alloc _).alloc _).own ⟨w3.heap.size + 1, 0, none⟩ 1 1 [.int .i64 X, .int .i64 Y] (by rfl) (by rfl) (news_at (by first | omega | (simp; done) | (simp; omega))) (by simp [Value.oneCell']) (by omega) (by unfold maxLen; omega) (by omega) (by first | omega | (simp; done) | (simp; omega)) (w3.heap.size + 1 + 1) (by simp) ?_; intro g' cap' wq hown3 hgrow hat hlt2; have hrow4 : RowR wq w.heap.size (.slice (some ⟨g', 0, none⟩) (k + 1) cap') (k + 1) (vs ++ [(X, Y)]) := ⟨by rw [flat_snoc]; exact hown3, snoc_rng2 hrow3.rng hIX hIY⟩; have hR4 : Rd wq g A cap bs (pp + 1 + 1) := Rd.aside (by (repeat (first | with_reducible exact hR3 | refine Rd.far ?_ (by first | omega | (simp; done) | (simp; omega)) _ | refine Rd.alloc ?_ _ | refine Rd.drewN ?_ _ | refine Rd.drew ?_))) hgrow (fun j hj => by have := (hrow3.own.lt j hj).1; omega); have hK4 : Kept w.heap.size g w wq := Kept.grown (by (repeat (first | with_reducible exact hK3 | (with_reducible refine Kept.set ?_ (by first | omega | (simp; done) | (simp; omega)) _) | (with_reducible refine Kept.alloc ?_ (by first | omega | (simp; done) | (simp; omega)) _) | (with_reducible refine Kept.drewN ?_ _) | (with_reducible refine Kept.drew ?_)))) hgrow (by first | omega | (simp; done) | (simp; omega)) (fun j hj => (hrow3.own.lt j hj).1); clear hown3 hgrow hat hlt2 hrow3 hR3 hK3))
        go_roundw
        case rel => exact ⟨k + 1, _, _, pp + 1 + 1, by omega, by go_num, rfl, hrow4, hR4, by omega, hK4⟩
        case measure => simp [intOf]; omega
    · obtain rfl : k = 4 := by omega
      obtain ⟨q, c, rfl, _, _⟩ := hrow.own.form (by omega)
      obtain ⟨hq1, hq2⟩ := hrow.lt
      obtain ⟨hc1, hc2⟩ := hrow.cap (by omega)
      go_wp2_with fail
      refine (pick_any 40 hR (by omega) (by omega) (by omega)).mono ?_
      rintro e w1 ⟨r, rfl, hr⟩
      have hr0 := hr.lo
      have hs1 := hr.only.size
      have hR1 := hr.rd
      have hrow1 := hrow.only hr.only (by omega)
      have hK1 := hK.then_only hr.only (by omega)
      have hI1 := hrow1.rats (by omega)
      clear hr hrow hR hK
      by_cases q0 : r = 0
      · subst q0
        go_wp2
        go_ret
        exact ⟨_, q, 2, 3, c - 1, rfl, ⟨hI1.drop1, by omega, by omega⟩, ⟨⟨pp + 1, by omega, hR1⟩, hK1.only⟩⟩
      have q0' : (r == 0) = false := by simpa using q0
      by_cases q1 : r = 1
      · subst q1
        go_wp2_with fail
        refine (l1Rat_any hR1 (by omega)).mono ?_
        rintro e w2 ⟨x, y, rfl, ⟨hIx, hIy⟩, ⟨⟨p2, hp2, hR2⟩, hO2⟩⟩
        have hs2 := hO2.size
        have hrow2 := hrow1.only hO2 (by omega)
        have hK2 := hK1.then_only hO2 (by omega)
        have hl2 := hrow2.len
        have e0 := (flat_get vs 0 (by omega)).1
        have e1 := (flat_get vs 0 (by omega)).2
        have hf0 := hrow2.own.frozenAt 0
        have hf1 := hrow2.own.frozenAt 1
        have hc0 : w2.cell? ⟨q, 0, none⟩ = some (.int .i64 (vs.getD 0 (0, 0)).1) := by rw [hrow2.own.cellAt 0 (by omega)]; exact e0
        have hc1' : w2.cell? ⟨q, 1, none⟩ = some (.int .i64 (vs.getD 0 (0, 0)).2) := by rw [hrow2.own.cellAt 1 (by omega)]; exact e1
        have hrow3 := hrow2.stored0 (x := x) (y := y) (by omega) hIx hIy
        have hI3 := hrow3.rats (by omega)
        clear e0 e1 hrow1 hrow2 hI1 hK1
        generalize (vs.getD 0 (0, 0)).1 = z1 at hc0
        generalize (vs.getD 0 (0, 0)).2 = z2 at hc1'
        go_wp2
        go_ret
        refine ⟨(x, y) :: vs.drop 1, q, 0, 4, c, rfl, ⟨?_, by omega, by omega⟩, ⟨⟨p2, by omega, ?_⟩, ?_⟩⟩
        · exact hI3
        · (repeat (first | with_reducible exact hR2 | refine Rd.far ?_ (by first | omega | (simp; done) | (simp; omega)) _ | refine Rd.alloc ?_ _ | refine Rd.drewN ?_ _ | refine Rd.drew ?_))
        · exact Kept.only (by (repeat (first | with_reducible exact hK2 | (with_reducible refine Kept.set ?_ (by first | omega | (simp; done) | (simp; omega)) _) | (with_reducible refine Kept.alloc ?_ (by first | omega | (simp; done) | (simp; omega)) _) | (with_reducible refine Kept.drewN ?_ _) | (with_reducible refine Kept.drew ?_))))
      have q1' : (r == 1) = false := by simpa using q1
      go_wp2
      go_ret
      exact ⟨_, q, 0, 4, c, rfl, ⟨hI1, by omega, by omega⟩, ⟨⟨pp + 1, by omega, hR1⟩, hK1.only⟩⟩

/-- A constraint was drawn, and numbers. -/
def LinAtBack (w : World) (e : Ending) (w' : World) : Prop :=
  ∃ (xs : List Int) (b : Int) (s : Bool) (q o n c : Nat) (vs : List (Int × Int)) (q' o' n' c' : Nat),
    e = .returned (.tuple #[.agg #[.slice (some ⟨q, o, none⟩) n c, .int .i64 b, .bool s], .slice (some ⟨q', o', none⟩) n' c']) ∧
      (Ints w' (some ⟨q, o, none⟩) n xs ∧ (3 ≤ n ∧ n ≤ 5) ∧ J64 b) ∧ (Rats w' (some ⟨q', o', none⟩) n' vs ∧ (3 ≤ n' ∧ n' ≤ 4)) ∧ Below w.heap.size w w'
set_option maxHeartbeats 4000000 in
theorem DrawLinAt_any {A : Option Addr} {cap : Nat} {bs : List UInt8} {w : World} (h : Code8 w A cap bs) (hl : bs.length ≤ 1048576) :
    Calls Try.prog 28 #[.slice A bs.length cap] w (LinAtBack w) := by
  have hc : Code8 (w.alloc (.cells #[.slice none 0 0, .int .i64 0, .bool false] 34)) A cap bs := h.later ((Below.refl _ _).alloc (Nat.le_refl _) _)
  go_enter Try.func28, Try.ntmps28
  go_wp2_with fail
  refine (l16Open_any (hc).bytes hl (hc).cap).mono ?_
  rintro e w1 ⟨bs', rfl, hR1, hb1⟩
  have hs1 := hb1.size
  simp only [World.size_alloc] at hs1
  obtain ⟨kc_, fc_, lc_⟩ := keep_later (a := ⟨w.heap.size, 0, none⟩) (v := .slice none 0 0) hb1 (by go_simp) (by go_simp); obtain ⟨kc_, fc_, lc_⟩ := keep_later (a := ⟨w.heap.size, 1, none⟩) (v := .int .i64 0) hb1 (by go_simp) (by go_simp); obtain ⟨kc_, fc_, lc_⟩ := keep_later (a := ⟨w.heap.size, 2, none⟩) (v := .bool false) hb1 (by go_simp) (by go_simp)
  have hB1 : Below w.heap.size w w1 := ((Below.refl _ _).alloc (Nat.le_refl _) _).trans (hb1.mono (by first | omega | (simp; done) | (simp; omega)))
  clear hb1
  simp only [World.size_alloc] at hR1 ⊢
  have hgl := hR1.lt
  obtain ⟨g, hg⟩ : ∃ g, w.heap.size + 1 = g := ⟨_, rfl⟩
  rw [hg] at hR1 hgl ⊢
  have hg1 : w.heap.size < g := by omega
  clear hg
  go_wp2_with fail
  refine (l2Some_any hR1 (by omega)).mono ?_
  rintro e w2 ⟨xs, b, s, q, o, n, c, rfl, ⟨hI2, hn, hq, hJb⟩, ⟨⟨p2, hp2, hR2⟩, hO2⟩⟩
  have hs2 := hO2.size
  obtain ⟨kc_, fc_, lc_⟩ := keep_only (a := ⟨w.heap.size, 0, none⟩) (v := .slice none 0 0) hO2 (by show w.heap.size ≠ g; omega) (by go_simp) (by go_simp); obtain ⟨kc_, fc_, lc_⟩ := keep_only (a := ⟨w.heap.size, 1, none⟩) (v := .int .i64 0) hO2 (by show w.heap.size ≠ g; omega) (by go_simp) (by go_simp); obtain ⟨kc_, fc_, lc_⟩ := keep_only (a := ⟨w.heap.size, 2, none⟩) (v := .bool false) hO2 (by show w.heap.size ≠ g; omega) (by go_simp) (by go_simp)
  have hB2 : Below w.heap.size w w2 := hB1.trans (hO2.base (by omega) (by omega))
  clear hO2 hB1 hR1
  go_wp2_with fail
  obtain ⟨wz, hwz⟩ : ∃ x : World, x = w := ⟨w, rfl⟩
  clear hwz
  go_region_held3 (fun w' => w'.cell? ⟨w2.heap.size, 0, none⟩ = some (.slice (some ⟨q, o, none⟩) n c) ∧ w'.cell? ⟨w2.heap.size, 1, none⟩ = some (.int .i64 b) ∧ w'.cell? ⟨w2.heap.size, 2, none⟩ = some (.bool s)) (simp [go_sem, World.cell?_alloc_past, *])
    ((first
      | (go_at_call 68; refine (l2Numbers_any (g := g) (A := A) (cap := cap) (bs := bs') (p := p2) ?_ (by omega)).mono ?_; (focus (repeat (first | with_reducible exact hR2 | refine Rd.far ?_ (by first | omega | (simp; done) | (simp; omega)) _ | refine Rd.alloc ?_ _ | refine Rd.drewN ?_ _ | refine Rd.drew ?_))); rintro e w3 ⟨vs, q', o', n', c', rfl, ⟨hV3, hn', hq'⟩, ⟨⟨p3, hp3, hR3⟩, hO3⟩⟩; have hs3 := hO3.size; (try simp at hs3); obtain ⟨kc_, fc_, lc_⟩ := keep_only (a := ⟨w.heap.size, 0, none⟩) (v := .slice none 0 0) hO3 (by show w.heap.size ≠ g; omega) (by go_simp) (by go_simp); obtain ⟨kc_, fc_, lc_⟩ := keep_only (a := ⟨w.heap.size, 1, none⟩) (v := .int .i64 0) hO3 (by show w.heap.size ≠ g; omega) (by go_simp) (by go_simp); obtain ⟨kc_, fc_, lc_⟩ := keep_only (a := ⟨w.heap.size, 2, none⟩) (v := .bool false) hO3 (by show w.heap.size ≠ g; omega) (by go_simp) (by go_simp); obtain ⟨kc_, fc_, lc_⟩ := keep_only (a := ⟨w2.heap.size, 0, none⟩) (v := .slice (some ⟨q, o, none⟩) n c) hO3 (by show w2.heap.size ≠ g; omega) (by go_simp) (by go_simp); obtain ⟨kc_, fc_, lc_⟩ := keep_only (a := ⟨w2.heap.size, 1, none⟩) (v := .int .i64 b) hO3 (by show w2.heap.size ≠ g; omega) (by go_simp) (by go_simp); obtain ⟨kc_, fc_, lc_⟩ := keep_only (a := ⟨w2.heap.size, 2, none⟩) (v := .bool s) hO3 (by show w2.heap.size ≠ g; omega) (by go_simp) (by go_simp); have hI3 : Ints w3 (some ⟨q, o, none⟩) n xs := Ints.aside (by (repeat (first | with_reducible exact hI2 | (with_reducible refine Ints.far ?_ (by first | omega | (simp; done) | (simp; omega)) _) | (with_reducible refine Ints.alloc ?_ _) | (with_reducible refine Ints.drewN ?_ _) | (with_reducible refine Ints.drew ?_)))) hO3 (by omega); have hB3 : Below w.heap.size w w3 := Below.trans (by (repeat (first | with_reducible exact Below.refl _ _ | with_reducible assumption | (with_reducible refine below_drewN ?_ _) | (with_reducible refine Below.drew ?_) | (with_reducible refine Below.setCell ?_ (by first | omega | (simp; done) | (simp; omega)) _) | (with_reducible refine Below.alloc ?_ (by first | omega | (simp; done) | (simp; omega)) _) | refine Below.trans ?_ (Below.mono (by with_reducible assumption) (by first | omega | (simp; done) | (simp; omega)))))) (hO3.base (by omega) (by first | omega | (simp; done) | (simp; omega))); (try simp at hq'); clear hO3)))
  all_goals
    go_wp2
    refine bodyPost_ret (v := .tuple #[.agg #[.slice (some ⟨q, o, none⟩) n c, .int .i64 b, .bool s], .slice (some ⟨q', o', none⟩) n' c']) (by simp only [results, Try.results28]; go_simp) rfl ⟨xs, b, s, q, o, n, c, vs, q', o', n', c', rfl, ⟨?_, hn, hJb⟩, ⟨?_, hn'⟩, ?_⟩
    · (repeat (first | with_reducible exact hI3 | (with_reducible refine Ints.far ?_ (by first | omega | (simp; done) | (simp; omega)) _) | (with_reducible refine Ints.alloc ?_ _) | (with_reducible refine Ints.drewN ?_ _) | (with_reducible refine Ints.drew ?_)))
    · (repeat (first | with_reducible exact hV3 | (with_reducible refine Rats.far ?_ (by first | omega | (simp; done) | (simp; omega)) _) | (with_reducible refine Rats.alloc ?_ _) | (with_reducible refine Rats.drewN ?_ _) | (with_reducible refine Rats.drew ?_)))
    · (repeat (first | with_reducible exact Below.refl _ _ | with_reducible assumption | (with_reducible refine below_drewN ?_ _) | (with_reducible refine Below.drew ?_) | (with_reducible refine Below.setCell ?_ (by first | omega | (simp; done) | (simp; omega)) _) | (with_reducible refine Below.alloc ?_ (by first | omega | (simp; done) | (simp; omega)) _) | refine Below.trans ?_ (Below.mono (by with_reducible assumption) (by first | omega | (simp; done) | (simp; omega)))))
/-- A constraint was drawn. -/
def LinOne (w : World) (e : Ending) (w' : World) : Prop :=
  ∃ (xs : List Int) (b : Int) (s : Bool) (q o n c : Nat), e = .returned (.agg #[.slice (some ⟨q, o, none⟩) n c, .int .i64 b, .bool s]) ∧ (Ints w' (some ⟨q, o, none⟩) n xs ∧ (3 ≤ n ∧ n ≤ 5) ∧ w.heap.size ≤ q ∧ J64 b) ∧ Below w.heap.size w w'
end Go.Proofs.Ytccjbipmlpnhkaa
