/- Draws of constraints. -/
import Derived.Test.YthamgdinhlnldaaU
import Derived.Test.YthamgdinhlnldaaH
namespace Go.Proofs.Ythamgdinhlnldaa
set_option maxRecDepth 100000
open Go.RowKit Go.ChangeShapes Go.WideShapes Go.ChangeAt
set_option linter.unusedSimpArgs false
set_option linter.unusedVariables false


/-- Two constraints were drawn, and two numbers. -/
def LinsBack (w : World) (e : Ending) (w' : World) : Prop :=
  ∃ (xs : List Int) (b : Int) (s : Bool) (q o n c : Nat) (m : Int) (ys : List Int) (b' : Int) (s' : Bool) (q' o' n' c' : Nat) (m' : Int),
    e = .returned (.tuple #[.agg #[.slice (some ⟨q, o, none⟩) n c, .int .i64 b, .bool s], .int .i64 m, .agg #[.slice (some ⟨q', o', none⟩) n' c', .int .i64 b', .bool s'], .int .i64 m']) ∧
      (Ints w' (some ⟨q, o, none⟩) n xs ∧ n ≤ 5 ∧ J64 b ∧ J64 m) ∧ (Ints w' (some ⟨q', o', none⟩) n' ys ∧ n' ≤ 5 ∧ J64 b' ∧ J64 m') ∧ Below w.heap.size w w'
set_option maxRecDepth 100000 in
set_option maxHeartbeats 4000000 in
theorem DrawLinSum_any {A : Option Addr} {cap : Nat} {bs : List UInt8} {w : World} (h : Code8 w A cap bs) (hl : bs.length ≤ 1048576) :
    Calls Try.prog 48 #[.slice A bs.length cap] w (LinsBack w) := by
  have hc : Code8 ((w.alloc (.cells #[.slice none 0 0, .int .i64 0, .bool false] 33)).alloc (.cells #[.slice none 0 0, .int .i64 0, .bool false] 33)) A cap bs := h.later (((Below.refl _ _).alloc (Nat.le_refl _) _).alloc (by simp) _)
  go_enter Try.func48, Try.ntmps48
  go_wp2_with fail
  refine (l16Open_any (hc).bytes hl (hc).cap).mono ?_
  rintro e w1 ⟨bs', rfl, hR1, hb1⟩
  have hs1 := hb1.size
  simp only [World.size_alloc] at hs1
  obtain ⟨kc_, fc_, lc_⟩ := keep_later (a := ⟨w.heap.size, 0, none⟩) (v := .slice none 0 0) hb1 (by go_simp) (by go_simp); obtain ⟨kc_, fc_, lc_⟩ := keep_later (a := ⟨w.heap.size, 1, none⟩) (v := .int .i64 0) hb1 (by go_simp) (by go_simp); obtain ⟨kc_, fc_, lc_⟩ := keep_later (a := ⟨w.heap.size, 2, none⟩) (v := .bool false) hb1 (by go_simp) (by go_simp); obtain ⟨kc_, fc_, lc_⟩ := keep_later (a := ⟨w.heap.size+1, 0, none⟩) (v := .slice none 0 0) hb1 (by go_simp) (by go_simp); obtain ⟨kc_, fc_, lc_⟩ := keep_later (a := ⟨w.heap.size+1, 1, none⟩) (v := .int .i64 0) hb1 (by go_simp) (by go_simp); obtain ⟨kc_, fc_, lc_⟩ := keep_later (a := ⟨w.heap.size+1, 2, none⟩) (v := .bool false) hb1 (by go_simp) (by go_simp)
  have hB1 : Below w.heap.size w w1 := (((Below.refl _ _).alloc (Nat.le_refl _) _).alloc (by simp) _).trans (hb1.mono (by first | omega | (simp; done) | (simp; omega)))
  clear hb1
  simp only [World.size_alloc] at hR1 ⊢
  have hgl := hR1.lt
  obtain ⟨g, hg⟩ : ∃ g, w.heap.size + 1 + 1 = g := ⟨_, rfl⟩
  rw [hg] at hR1 hgl ⊢
  have hg1 : w.heap.size + 1 < g := by omega
  clear hg
  go_wp2_with fail
  refine (l2Some_any hR1 (by omega)).mono ?_
  rintro e w2 ⟨xs, b, s, q, o, n, c, rfl, ⟨hI2, hn, hq, hJb⟩, ⟨⟨p2, hp2, hR2⟩, hO2⟩⟩
  have hs2 := hO2.size
  obtain ⟨kc_, fc_, lc_⟩ := keep_only (a := ⟨w.heap.size, 0, none⟩) (v := .slice none 0 0) hO2 (by show w.heap.size ≠ g; omega) (by go_simp) (by go_simp); obtain ⟨kc_, fc_, lc_⟩ := keep_only (a := ⟨w.heap.size, 1, none⟩) (v := .int .i64 0) hO2 (by show w.heap.size ≠ g; omega) (by go_simp) (by go_simp); obtain ⟨kc_, fc_, lc_⟩ := keep_only (a := ⟨w.heap.size, 2, none⟩) (v := .bool false) hO2 (by show w.heap.size ≠ g; omega) (by go_simp) (by go_simp); obtain ⟨kc_, fc_, lc_⟩ := keep_only (a := ⟨w.heap.size+1, 0, none⟩) (v := .slice none 0 0) hO2 (by show w.heap.size+1 ≠ g; omega) (by go_simp) (by go_simp); obtain ⟨kc_, fc_, lc_⟩ := keep_only (a := ⟨w.heap.size+1, 1, none⟩) (v := .int .i64 0) hO2 (by show w.heap.size+1 ≠ g; omega) (by go_simp) (by go_simp); obtain ⟨kc_, fc_, lc_⟩ := keep_only (a := ⟨w.heap.size+1, 2, none⟩) (v := .bool false) hO2 (by show w.heap.size+1 ≠ g; omega) (by go_simp) (by go_simp)
  have hB2 : Below w.heap.size w w2 := hB1.trans (hO2.base (by omega) (by omega))
  clear hO2 hB1 hR1
  go_wp2_with fail
  refine (num_any [1, 2, 0, 3, 1, -1, 1000000, 9223372036854775807] (w2.heap.size + 1) 0 8 8 ((hR2.alloc _).alloc _) (by omega) (by decide) (by decide) (by decide) (by omega) (fun j hj => ?_)).mono ?_
  · have hx := alloc_list (w2.alloc (.cells #[.slice (some ⟨q, o, none⟩) n c, .int .i64 b, .bool s] 33)) [1, 2, 0, 3, 1, -1, 1000000, 9223372036854775807] 3 j hj
    rw [World.size_alloc] at hx
    exact hx
  rintro e w3 ⟨m, rfl, hm⟩
  have hs3 := hm.only.size
  simp only [World.size_alloc] at hs3
  obtain ⟨kc_, fc_, lc_⟩ := keep_only (a := ⟨w.heap.size, 0, none⟩) (v := .slice none 0 0) hm.only (by show w.heap.size ≠ g; omega) (by go_simp) (by go_simp); obtain ⟨kc_, fc_, lc_⟩ := keep_only (a := ⟨w.heap.size, 1, none⟩) (v := .int .i64 0) hm.only (by show w.heap.size ≠ g; omega) (by go_simp) (by go_simp); obtain ⟨kc_, fc_, lc_⟩ := keep_only (a := ⟨w.heap.size, 2, none⟩) (v := .bool false) hm.only (by show w.heap.size ≠ g; omega) (by go_simp) (by go_simp); obtain ⟨kc_, fc_, lc_⟩ := keep_only (a := ⟨w.heap.size+1, 0, none⟩) (v := .slice none 0 0) hm.only (by show w.heap.size+1 ≠ g; omega) (by go_simp) (by go_simp); obtain ⟨kc_, fc_, lc_⟩ := keep_only (a := ⟨w.heap.size+1, 1, none⟩) (v := .int .i64 0) hm.only (by show w.heap.size+1 ≠ g; omega) (by go_simp) (by go_simp); obtain ⟨kc_, fc_, lc_⟩ := keep_only (a := ⟨w.heap.size+1, 2, none⟩) (v := .bool false) hm.only (by show w.heap.size+1 ≠ g; omega) (by go_simp) (by go_simp); obtain ⟨kc_, fc_, lc_⟩ := keep_only (a := ⟨w2.heap.size, 0, none⟩) (v := .slice (some ⟨q, o, none⟩) n c) hm.only (by show w2.heap.size ≠ g; omega) (by go_simp) (by go_simp); obtain ⟨kc_, fc_, lc_⟩ := keep_only (a := ⟨w2.heap.size, 1, none⟩) (v := .int .i64 b) hm.only (by show w2.heap.size ≠ g; omega) (by go_simp) (by go_simp); obtain ⟨kc_, fc_, lc_⟩ := keep_only (a := ⟨w2.heap.size, 2, none⟩) (v := .bool s) hm.only (by show w2.heap.size ≠ g; omega) (by go_simp) (by go_simp)
  have hR3 := hm.rd
  have hJm : J64 m := by have := hm.mem; simp at this; unfold J64; omega
  have hI3 := ((hI2.alloc (.cells #[.slice (some ⟨q, o, none⟩) n c, .int .i64 b, .bool s] 33)).alloc _).aside hm.only (by omega)
  have hB3 : Below w.heap.size w w3 := Below.trans (by (repeat (first | with_reducible exact Below.refl _ _ | with_reducible assumption | (with_reducible refine below_drewN ?_ _) | (with_reducible refine Below.drew ?_) | (with_reducible refine Below.setCell ?_ (by first | omega | (simp; done) | (simp; omega)) _) | (with_reducible refine Below.alloc ?_ (by first | omega | (simp; done) | (simp; omega)) _) | refine Below.trans ?_ (Below.mono (by with_reducible assumption) (by first | omega | (simp; done) | (simp; omega)))))) (hm.only.base (by omega) (by simp; omega))
  clear hm hB2 hR2 hI2
  go_wp2_with fail
  refine (l2Some_any hR3 (by omega)).mono ?_
  rintro e w4 ⟨ys, b', s', q', o', n', c', rfl, ⟨hI4, hn', hq', hJb'⟩, ⟨⟨p4, hp4, hR4⟩, hO4⟩⟩
  have hs4 := hO4.size
  obtain ⟨kc_, fc_, lc_⟩ := keep_only (a := ⟨w.heap.size, 0, none⟩) (v := .slice none 0 0) hO4 (by show w.heap.size ≠ g; omega) (by go_simp) (by go_simp); obtain ⟨kc_, fc_, lc_⟩ := keep_only (a := ⟨w.heap.size, 1, none⟩) (v := .int .i64 0) hO4 (by show w.heap.size ≠ g; omega) (by go_simp) (by go_simp); obtain ⟨kc_, fc_, lc_⟩ := keep_only (a := ⟨w.heap.size, 2, none⟩) (v := .bool false) hO4 (by show w.heap.size ≠ g; omega) (by go_simp) (by go_simp); obtain ⟨kc_, fc_, lc_⟩ := keep_only (a := ⟨w.heap.size+1, 0, none⟩) (v := .slice none 0 0) hO4 (by show w.heap.size+1 ≠ g; omega) (by go_simp) (by go_simp); obtain ⟨kc_, fc_, lc_⟩ := keep_only (a := ⟨w.heap.size+1, 1, none⟩) (v := .int .i64 0) hO4 (by show w.heap.size+1 ≠ g; omega) (by go_simp) (by go_simp); obtain ⟨kc_, fc_, lc_⟩ := keep_only (a := ⟨w.heap.size+1, 2, none⟩) (v := .bool false) hO4 (by show w.heap.size+1 ≠ g; omega) (by go_simp) (by go_simp); obtain ⟨kc_, fc_, lc_⟩ := keep_only (a := ⟨w2.heap.size, 0, none⟩) (v := .slice (some ⟨q, o, none⟩) n c) hO4 (by show w2.heap.size ≠ g; omega) (by go_simp) (by go_simp); obtain ⟨kc_, fc_, lc_⟩ := keep_only (a := ⟨w2.heap.size, 1, none⟩) (v := .int .i64 b) hO4 (by show w2.heap.size ≠ g; omega) (by go_simp) (by go_simp); obtain ⟨kc_, fc_, lc_⟩ := keep_only (a := ⟨w2.heap.size, 2, none⟩) (v := .bool s) hO4 (by show w2.heap.size ≠ g; omega) (by go_simp) (by go_simp)
  have hB4 : Below w.heap.size w w4 := hB3.trans (hO4.base (by omega) (by omega))
  replace hI3 := hI3.aside hO4 (by omega)
  clear hO4 hB3 hR3
  go_wp2_with fail
  obtain ⟨wz, hwz⟩ : ∃ x : World, x = w := ⟨w, rfl⟩
  clear hwz
  go_region_held3 (fun w' => w'.cell? ⟨w2.heap.size, 0, none⟩ = some (.slice (some ⟨q, o, none⟩) n c) ∧ w'.cell? ⟨w2.heap.size, 1, none⟩ = some (.int .i64 b) ∧ w'.cell? ⟨w2.heap.size, 2, none⟩ = some (.bool s) ∧ w'.cell? ⟨w4.heap.size, 0, none⟩ = some (.slice (some ⟨q', o', none⟩) n' c') ∧ w'.cell? ⟨w4.heap.size, 1, none⟩ = some (.int .i64 b') ∧ w'.cell? ⟨w4.heap.size, 2, none⟩ = some (.bool s')) (simp [go_sem, World.cell?_alloc_past, *])
    ((first
      | (go_at_call 82; refine (num_any (g := g) (A := A) (cap := cap) (bs := bs') (p := p4) [1, 2, 0, 3, 1, -1, 1000000] _ 0 7 7 ?_ (by omega) (by decide) (by decide) (by decide) ?_ (fun j hj => ?_)).mono ?_; (focus (repeat (first | with_reducible exact hR4 | refine Rd.far ?_ (by first | omega | (simp; done) | (simp; omega)) _ | refine Rd.alloc ?_ _ | refine Rd.drewN ?_ _ | refine Rd.drew ?_))); (focus (first | omega | (simp; omega))); (focus (have hx := alloc_list (w4.alloc (.cells #[.slice (some ⟨q', o', none⟩) n' c', .int .i64 b', .bool s'] 33)) [1, 2, 0, 3, 1, -1, 1000000] 3 j hj; rw [World.size_alloc] at hx; exact hx)); rintro e w5 ⟨m', rfl, hm⟩; have hs5 := hm.only.size; (try simp at hs5); obtain ⟨kc_, fc_, lc_⟩ := keep_only (a := ⟨w.heap.size, 0, none⟩) (v := .slice none 0 0) hm.only (by show w.heap.size ≠ g; omega) (by go_simp) (by go_simp); obtain ⟨kc_, fc_, lc_⟩ := keep_only (a := ⟨w.heap.size, 1, none⟩) (v := .int .i64 0) hm.only (by show w.heap.size ≠ g; omega) (by go_simp) (by go_simp); obtain ⟨kc_, fc_, lc_⟩ := keep_only (a := ⟨w.heap.size, 2, none⟩) (v := .bool false) hm.only (by show w.heap.size ≠ g; omega) (by go_simp) (by go_simp); obtain ⟨kc_, fc_, lc_⟩ := keep_only (a := ⟨w.heap.size+1, 0, none⟩) (v := .slice none 0 0) hm.only (by show w.heap.size+1 ≠ g; omega) (by go_simp) (by go_simp); obtain ⟨kc_, fc_, lc_⟩ := keep_only (a := ⟨w.heap.size+1, 1, none⟩) (v := .int .i64 0) hm.only (by show w.heap.size+1 ≠ g; omega) (by go_simp) (by go_simp); obtain ⟨kc_, fc_, lc_⟩ := keep_only (a := ⟨w.heap.size+1, 2, none⟩) (v := .bool false) hm.only (by show w.heap.size+1 ≠ g; omega) (by go_simp) (by go_simp); obtain ⟨kc_, fc_, lc_⟩ := keep_only (a := ⟨w2.heap.size, 0, none⟩) (v := .slice (some ⟨q, o, none⟩) n c) hm.only (by show w2.heap.size ≠ g; omega) (by go_simp) (by go_simp); obtain ⟨kc_, fc_, lc_⟩ := keep_only (a := ⟨w2.heap.size, 1, none⟩) (v := .int .i64 b) hm.only (by show w2.heap.size ≠ g; omega) (by go_simp) (by go_simp); obtain ⟨kc_, fc_, lc_⟩ := keep_only (a := ⟨w2.heap.size, 2, none⟩) (v := .bool s) hm.only (by show w2.heap.size ≠ g; omega) (by go_simp) (by go_simp); obtain ⟨kc_, fc_, lc_⟩ := keep_only (a := ⟨w4.heap.size, 0, none⟩) (v := .slice (some ⟨q', o', none⟩) n' c') hm.only (by show w4.heap.size ≠ g; omega) (by go_simp) (by go_simp); obtain ⟨kc_, fc_, lc_⟩ := keep_only (a := ⟨w4.heap.size, 1, none⟩) (v := .int .i64 b') hm.only (by show w4.heap.size ≠ g; omega) (by go_simp) (by go_simp); obtain ⟨kc_, fc_, lc_⟩ := keep_only (a := ⟨w4.heap.size, 2, none⟩) (v := .bool s') hm.only (by show w4.heap.size ≠ g; omega) (by go_simp) (by go_simp); have hJm' : J64 m' := (by have := hm.mem; simp at this; unfold J64; omega); have hI5 : Ints w5 (some ⟨q, o, none⟩) n xs := Ints.aside (by (repeat (first | with_reducible exact hI3 | (with_reducible refine Ints.far ?_ (by first | omega | (simp; done) | (simp; omega)) _) | (with_reducible refine Ints.alloc ?_ _) | (with_reducible refine Ints.drewN ?_ _) | (with_reducible refine Ints.drew ?_)))) hm.only (by omega); have hI6 : Ints w5 (some ⟨q', o', none⟩) n' ys := Ints.aside (by (repeat (first | with_reducible exact hI4 | (with_reducible refine Ints.far ?_ (by first | omega | (simp; done) | (simp; omega)) _) | (with_reducible refine Ints.alloc ?_ _) | (with_reducible refine Ints.drewN ?_ _) | (with_reducible refine Ints.drew ?_)))) hm.only (by omega); have hB5 : Below w.heap.size w w5 := Below.trans (by (repeat (first | with_reducible exact Below.refl _ _ | with_reducible assumption | (with_reducible refine below_drewN ?_ _) | (with_reducible refine Below.drew ?_) | (with_reducible refine Below.setCell ?_ (by first | omega | (simp; done) | (simp; omega)) _) | (with_reducible refine Below.alloc ?_ (by first | omega | (simp; done) | (simp; omega)) _) | refine Below.trans ?_ (Below.mono (by with_reducible assumption) (by first | omega | (simp; done) | (simp; omega)))))) (hm.only.base (by omega) (by first | omega | (simp; done) | (simp; omega))); clear hm)))
  all_goals
    have hlt5 := hI5
    go_wp2
    refine bodyPost_ret (v := .tuple #[.agg #[.slice (some ⟨q, o, none⟩) n c, .int .i64 b, .bool s], .int .i64 m, .agg #[.slice (some ⟨q', o', none⟩) n' c', .int .i64 b', .bool s'], .int .i64 m']) (by simp only [results, Try.results48]; go_simp) rfl ⟨xs, b, s, q, o, n, c, m, ys, b', s', q', o', n', c', m', rfl, ⟨?_, hn.2, hJb, hJm⟩, ⟨?_, hn'.2, hJb', hJm'⟩, ?_⟩
    · (repeat (first | with_reducible exact hI5 | (with_reducible refine Ints.far ?_ (by first | omega | (simp; done) | (simp; omega)) _) | (with_reducible refine Ints.alloc ?_ _) | (with_reducible refine Ints.drewN ?_ _) | (with_reducible refine Ints.drew ?_)))
    · (repeat (first | with_reducible exact hI6 | (with_reducible refine Ints.far ?_ (by first | omega | (simp; done) | (simp; omega)) _) | (with_reducible refine Ints.alloc ?_ _) | (with_reducible refine Ints.drewN ?_ _) | (with_reducible refine Ints.drew ?_)))
    · (repeat (first | with_reducible exact Below.refl _ _ | with_reducible assumption | (with_reducible refine below_drewN ?_ _) | (with_reducible refine Below.drew ?_) | (with_reducible refine Below.setCell ?_ (by first | omega | (simp; done) | (simp; omega)) _) | (with_reducible refine Below.alloc ?_ (by first | omega | (simp; done) | (simp; omega)) _) | refine Below.trans ?_ (Below.mono (by with_reducible assumption) (by first | omega | (simp; done) | (simp; omega)))))
theorem L3.fresh (W : World) (v0 v1 v2 : Value) (t : TypeId) : L3 (W.alloc (.cells #[v0, v1, v2] t)) W.heap.size v0 v1 v2 := ⟨by simp [go_sem], by simp [go_sem], by simp [go_sem], by simp [go_sem], by simp [go_sem], by simp [go_sem]⟩
theorem L3.not_row {w : World} {r B q n c : Nat} {xs : List Int} {v0 v1 : Value} {s : Bool} (h : L3 w r v0 v1 (.bool s)) (k : Row64 w B q n c xs) (hn : 3 ≤ n) : r ≠ q := fun e => by
  have h1 := k.cellAt (k := 2) (by omega)
  rw [← e, h.c2] at h1
  cases h1
theorem J64_half {b : Int} (h : J64 b) : J64 (b.tdiv 2) := by
  unfold J64 at *
  rcases Int.le_total 0 b with hb | hb
  · rw [Int.tdiv_eq_ediv_of_nonneg hb]; omega
  · have : b.tdiv 2 = -((-b) / 2) := by
      rw [← Int.tdiv_eq_ediv_of_nonneg (by omega : 0 ≤ -b), Int.neg_tdiv]; omega
    rw [this]; omega
theorem iLinSum_y {A A' : Option Addr} {n0 n0' c c' : Nat} {xs ys : List Int} (b b' : Int) (s s' : Bool) (m n : Int) {w : World} (h : Ints w A n0 xs) (h' : Ints w A' n0' ys) (hk : linSumOk m xs b n ys b' = true) :
    Calls Try.prog 49 #[.agg #[.slice A n0 c, .int .i64 b, .bool s], .int .i64 m, .agg #[.slice A' n0' c', .int .i64 b', .bool s'], .int .i64 n] w
      fun e w' => ∃ g cap, e = .returned (.tuple #[.agg #[.slice (some ⟨g, 0, none⟩) 4 cap, .int .i64 (m * b + n * b'), .bool (strictOr m n s s')], .bool true]) ∧ (Ints w' (some ⟨g, 0, none⟩) 4 (combo m xs n ys) ∧ Free w' g) ∧ 4 ≤ cap ∧ w.heap.size ≤ g ∧ Below w.heap.size w w' := by
  obtain ⟨hx, hy, ⟨hm1, hm2⟩, ⟨hn1, hn2⟩, hfin⟩ := linSumOk_iff.1 hk
  exact iLinSum_yes b b' s s' m n h h' hx hy hm1 hm2 hn1 hn2 hfin
end Go.Proofs.Ythamgdinhlnldaa
