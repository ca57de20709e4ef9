/- What the draws of constraints give, bent ones among them. -/
import Derived.Test.YtccjbipmlpnhkaaK
namespace Go.Proofs.Ytccjbipmlpnhkaa
set_option maxRecDepth 100000
open Go.RowKit Go.ChangeShapes Go.WideShapes Go.ChangeAt
set_option linter.unusedSimpArgs false
set_option linter.unusedVariables false

theorem Row64.ints {w : World} {B q n c : Nat} {xs : List Int} (h : Row64 w B q n c xs) (hn : n ≤ 1000000) : Ints w (some ⟨q, 0, none⟩) n xs := by
  have hl : xs.length = n := by have := h.own.1; simpa using this
  refine Ints.of_own h.own (fun j hj => ?_) hl h.rng (by omega)
  rw [List.getElem?_map, List.getElem?_eq_getElem (show j < xs.length by omega), List.getD_eq_getElem?_getD, List.getElem?_eq_getElem (show j < xs.length by omega)]
  rfl
theorem Row64.lt {w : World} {B q n c : Nat} {xs : List Int} (h : Row64 w B q n c xs) : B ≤ q ∧ q < w.heap.size := h.own.lt q rfl
theorem Row64.free {w : World} {B q n c : Nat} {xs : List Int} (h : Row64 w B q n c xs) : Free w q := ⟨h.lt.2, fun j => h.own.frozenAt j⟩
theorem Row64.only {w w' : World} {B q n c g : Nat} {xs : List Int} (h : Row64 w B q n c xs) (ho : Only g w w') (hg : q ≠ g) : Row64 w' B q n c xs :=
  ⟨h.own.kept ho (.inr (fun e => hg (by simpa [Value.ownBlock] using e))), h.rng⟩
theorem Row64.alloc {w : World} {B q n c : Nat} {xs : List Int} (h : Row64 w B q n c xs) (o : Obj) : Row64 (w.alloc o) B q n c xs := ⟨h.own.alloc o, h.rng⟩
theorem Row64.cap {w : World} {B q n c : Nat} {xs : List Int} (h : Row64 w B q n c xs) (hn : 0 < n) : n ≤ c ∧ c ≤ maxLen := by
  rcases h.own.2 with ⟨e, _⟩ | ⟨g', cap', cur, e, _, _, h1, h2, _⟩
  · simp at e
  · simp only [Value.slice.injEq, true_and] at e
    obtain ⟨_, rfl⟩ := e
    exact ⟨h1, h2⟩
theorem Ints.drop1 {w : World} {q o n : Nat} {xs : List Int} (h : Ints w (some ⟨q, o, none⟩) (n + 1) xs) : Ints w (some ⟨q, o + 1, none⟩) n (xs.drop 1) :=
  ⟨by have := h.len; simp; omega, fun hn => by
    obtain ⟨b, o', e, hb, hc⟩ := h.cells (by omega)
    injection e with e; injection e with e1 e2
    subst e1 e2
    refine ⟨_, _, rfl, hb, fun j hj => ?_⟩
    have := hc (j + 1) (by omega)
    rw [show o + 1 + j = o + (j + 1) by omega, this]
    simp [List.getD_eq_getElem?_getD, Nat.add_comm], fun j => by
    have := h.rng (j + 1)
    simpa [List.getD_eq_getElem?_getD, Nat.add_comm] using this, by have := h.few; omega⟩

theorem Ints.zeros (W : World) {k : Nat} (hk : W.heap.size = k) : Ints (W.alloc (.cells #[.int .i64 0, .int .i64 0, .int .i64 0, .int .i64 0] 3)) (some ⟨k, 0, none⟩) 4 [0, 0, 0, 0] := by
  subst hk
  refine ⟨rfl, fun _ => ⟨_, 0, rfl, by simp, fun j hj => alloc_list W [0, 0, 0, 0] 3 j hj⟩, fun j => ?_, by omega⟩
  match j with
  | 0 | 1 | 2 | 3 => simp [J64]
  | j + 4 => simp [J64]
theorem Row64.drew {w : World} {B q n c : Nat} {xs : List Int} (h : Row64 w B q n c xs) : Row64 w.drew B q n c xs := ⟨h.own.drew, h.rng⟩
theorem Only.drew {g : Nat} {a b : World} (h : Only g a b) : Only g a b.drew := ⟨h.os, h.tape, h.output, h.size, h.block⟩
theorem set_rng {xs : List Int} {k : Nat} {x : Int} (h : ∀ j, J64 (xs.getD j 0)) (hx : J64 x) (j : Nat) : J64 ((xs.set k x).getD j 0) := by
  have := h j
  rw [List.getD_eq_getElem?_getD] at this ⊢
  rw [List.getElem?_set]
  split
  · split
    · simpa using hx
    · simp [J64]
  · exact this
theorem Row64.stored {w : World} {B q n c : Nat} {xs : List Int} (h : Row64 w B q n c xs) (k : Nat) {x : Int} (hx : J64 x) : Row64 (w.setCell ⟨q, k, none⟩ (.int .i64 x)) B q n c (xs.set k x) :=
  ⟨by rw [List.map_set]; exact (h.own.stored k _).1, set_rng h.rng hx⟩
theorem Row64.cellAt {w : World} {B q n c : Nat} {xs : List Int} (h : Row64 w B q n c xs) {k : Nat} (hk : k < n) : w.cell? ⟨q, k, none⟩ = some (.int .i64 (xs.getD k 0)) := by
  have hl : xs.length = n := by have := h.own.1; simpa using this
  rw [h.own.cellAt k (by omega), List.getElem?_map, List.getElem?_eq_getElem (show k < xs.length by omega), List.getD_eq_getElem?_getD, List.getElem?_eq_getElem (show k < xs.length by omega)]
  rfl
theorem nums_keep {g : Nat} {w w' : World} (xs : List Int) (h : Only g (w.alloc (.cells (xs.map (Value.int .i64)).toArray 3)).drew w') (hg : w.heap.size ≠ g) : ∀ j, j < xs.length → w'.cell? ⟨w.heap.size, 0 + j, none⟩ = some (.int .i64 (xs.getD j 0)) := fun j hj =>
  (World.cell?_of_block (w := (w.alloc (.cells (xs.map (Value.int .i64)).toArray 3)).drew) (a := ⟨w.heap.size, 0 + j, none⟩) (h.block _ (by show _ < (w.alloc _).heap.size; simp) (fun e => hg (by injection e)))).trans (alloc_list w xs 3 j hj)

/-- A constraint was drawn. -/
def LinBack (g : Nat) (A : Option Addr) (cap : Nat) (bs : List UInt8) (p k : Nat) (w : World) (e : Ending) (w' : World) : Prop :=
  ∃ (xs : List Int) (b : Int) (s : Bool) (q o n c : Nat), e = .returned (.agg #[.slice (some ⟨q, o, none⟩) n c, .int .i64 b, .bool s]) ∧ (Ints w' (some ⟨q, o, none⟩) n xs ∧ (3 ≤ n ∧ n ≤ 5) ∧ w.heap.size ≤ q ∧ J64 b) ∧ Moved g A cap bs p k w w'
set_option maxRecDepth 100000 in
set_option maxHeartbeats 4000000 in
theorem l2Some_any {g : Nat} {A : Option Addr} {cap : Nat} {bs : List UInt8} {p : Nat} {w : World} (h : Rd w g A cap bs p) (hp : p ≤ 600000) :
    Calls Try.prog 67 #[.pointer (some ⟨g, 0, none⟩)] w (LinBack g A cap bs p 14 w) := by
  have hg := h.lt
  obtain ⟨i0, hi, zi0, zi1, zi2⟩ := info_parts int_info
  go_enter Try.func67, Try.ntmps67
  go_wp2_with fail
  refine (l2Any_any (h.alloc _) (by omega)).mono ?_
  rintro e w1 ⟨xs, b, s, q, c, rfl, hrow, hJb, ⟨⟨p1, hp1, hR1⟩, hO1⟩⟩
  have hs1 := hO1.size
  simp only [World.size_alloc] at hs1
  obtain ⟨kc_, fc_, lc_⟩ := keep_only (a := ⟨w.heap.size, 0, none⟩) (v := .slice none 0 0) hO1 (by show w.heap.size ≠ g; omega) (by go_simp) (by go_simp); obtain ⟨kc_, fc_, lc_⟩ := keep_only (a := ⟨w.heap.size, 1, none⟩) (v := .int .i64 0) hO1 (by show w.heap.size ≠ g; omega) (by go_simp) (by go_simp); obtain ⟨kc_, fc_, lc_⟩ := keep_only (a := ⟨w.heap.size, 2, none⟩) (v := .bool false) hO1 (by show w.heap.size ≠ g; omega) (by go_simp) (by go_simp)
  have hO1' : Only g w w1 := (Only.of_below ((Below.refl _ _).alloc (Nat.le_refl _) _)).trans hO1
  clear hO1
  obtain ⟨hq1, hq2⟩ := hrow.lt
  obtain ⟨hc1, hc2⟩ := hrow.cap (by omega)
  simp only [World.size_alloc] at hq1
  go_wp2_with fail
  refine (pick_any 80 (w := w1.alloc (.cells #[.slice (some ⟨q, 0, none⟩) 4 c, .int .i64 b, .bool s] 34)) (hR1.alloc _) (by omega) (by omega) (by omega)).mono ?_
  rintro e w2 ⟨r, rfl, hr⟩
  have hr0 := hr.lo
  have hs2 := hr.only.size
  simp only [World.size_alloc] at hs2
  obtain ⟨kc_, fc_, lc_⟩ := keep_only (a := ⟨w.heap.size, 0, none⟩) (v := .slice none 0 0) hr.only (by show w.heap.size ≠ g; omega) (by go_simp) (by go_simp); obtain ⟨kc_, fc_, lc_⟩ := keep_only (a := ⟨w.heap.size, 1, none⟩) (v := .int .i64 0) hr.only (by show w.heap.size ≠ g; omega) (by go_simp) (by go_simp); obtain ⟨kc_, fc_, lc_⟩ := keep_only (a := ⟨w.heap.size, 2, none⟩) (v := .bool false) hr.only (by show w.heap.size ≠ g; omega) (by go_simp) (by go_simp); obtain ⟨kc_, fc_, lc_⟩ := keep_only (a := ⟨w1.heap.size, 0, none⟩) (v := .slice (some ⟨q, 0, none⟩) 4 c) hr.only (by show w1.heap.size ≠ g; omega) (by go_simp) (by go_simp); obtain ⟨kc_, fc_, lc_⟩ := keep_only (a := ⟨w1.heap.size, 1, none⟩) (v := .int .i64 b) hr.only (by show w1.heap.size ≠ g; omega) (by go_simp) (by go_simp); obtain ⟨kc_, fc_, lc_⟩ := keep_only (a := ⟨w1.heap.size, 2, none⟩) (v := .bool s) hr.only (by show w1.heap.size ≠ g; omega) (by go_simp) (by go_simp)
  have hO2 : Only g w w2 := (hO1'.below ((Below.refl _ _).alloc (Nat.le_refl _) _)).trans hr.only
  have hrow2 := (hrow.alloc (.cells #[.slice (some ⟨q, 0, none⟩) 4 c, .int .i64 b, .bool s] 34)).only hr.only (by omega)
  have hR2 := hr.rd
  simp only [World.size_alloc] at hrow2
  clear hr hO1' hrow
  have hI2 := hrow2.ints (by omega)
  by_cases q0 : r = 0
  · subst q0
    go_wp2
    refine bodyPost_ret (v := .agg #[.slice (some ⟨q, 1, none⟩) 3 (c - 1), .int .i64 b, .bool s]) (by simp only [results, Try.results67]; go_simp) rfl ⟨xs.drop 1, b, s, q, 1, 3, (c - 1), rfl, ⟨?_, by omega, by omega, ?_⟩, ⟨?_, ?_⟩⟩
    · have hI3 := hI2.drop1
      (repeat (first | with_reducible exact hI3 | (with_reducible refine Ints.far ?_ (by first | omega | (simp; done) | (simp; omega)) _) | (with_reducible refine Ints.alloc ?_ _) | (with_reducible refine Ints.drewN ?_ _) | (with_reducible refine Ints.drew ?_)))
    · exact hJb
    · exact ⟨p1 + 1, by omega, by (repeat (first | with_reducible exact hR2 | refine Rd.far ?_ (by first | omega | (simp; done) | (simp; omega)) _ | refine Rd.alloc ?_ _ | refine Rd.drewN ?_ _ | refine Rd.drew ?_))⟩
    · (repeat (first | exact hO2 | refine Only.far ?_ (by first | omega | (simp; done) | (simp; omega)) (by first | omega | (simp; done) | (simp; omega)) _ | refine Only.alloc ?_ _ | refine Only.drewN ?_ _))
  have q0' : (r == 0) = false := by simpa using q0
  by_cases q3 : r = 3
  · subst q3
    go_wp2_with fail
    refine (num_any [-1000000, 1000001, -9223372036854775808] w2.heap.size 0 _ _ (hR2.alloc _) (by omega) rfl (by decide) (by decide) (by omega) (fun j hj => alloc_list w2 [-1000000, 1000001, -9223372036854775808] 3 j hj)).mono ?_
    rintro e w3 ⟨x, rfl, hn⟩
    have hJx : J64 x := by have := hn.mem; simp at this; unfold J64; omega
    have hs3 := hn.only.size
    simp only [World.size_alloc] at hs3
    obtain ⟨kc_, fc_, lc_⟩ := keep_only (a := ⟨w.heap.size, 0, none⟩) (v := .slice none 0 0) hn.only (by show w.heap.size ≠ g; omega) (by go_simp) (by go_simp); obtain ⟨kc_, fc_, lc_⟩ := keep_only (a := ⟨w.heap.size, 1, none⟩) (v := .int .i64 0) hn.only (by show w.heap.size ≠ g; omega) (by go_simp) (by go_simp); obtain ⟨kc_, fc_, lc_⟩ := keep_only (a := ⟨w.heap.size, 2, none⟩) (v := .bool false) hn.only (by show w.heap.size ≠ g; omega) (by go_simp) (by go_simp); obtain ⟨kc_, fc_, lc_⟩ := keep_only (a := ⟨w1.heap.size, 0, none⟩) (v := .slice (some ⟨q, 0, none⟩) 4 c) hn.only (by show w1.heap.size ≠ g; omega) (by go_simp) (by go_simp); obtain ⟨kc_, fc_, lc_⟩ := keep_only (a := ⟨w1.heap.size, 1, none⟩) (v := .int .i64 b) hn.only (by show w1.heap.size ≠ g; omega) (by go_simp) (by go_simp); obtain ⟨kc_, fc_, lc_⟩ := keep_only (a := ⟨w1.heap.size, 2, none⟩) (v := .bool s) hn.only (by show w1.heap.size ≠ g; omega) (by go_simp) (by go_simp)
    have hO3 : Only g w w3 := (hO2.below ((Below.refl _ _).alloc (Nat.le_refl _) _)).trans hn.only
    have hI3 := ((hrow2.alloc _).only hn.only (by omega)).ints (by omega)
    have hR3 := hn.rd
    clear hn
    go_wp2
    refine bodyPost_ret (v := .agg #[.slice (some ⟨q, 0, none⟩) 4 c, .int .i64 x, .bool s]) (by simp only [results, Try.results67]; go_simp) rfl ⟨xs, x, s, q, 0, 4, c, rfl, ⟨?_, by omega, by omega, ?_⟩, ⟨?_, ?_⟩⟩
    · (repeat (first | with_reducible exact hI3 | (with_reducible refine Ints.far ?_ (by first | omega | (simp; done) | (simp; omega)) _) | (with_reducible refine Ints.alloc ?_ _) | (with_reducible refine Ints.drewN ?_ _) | (with_reducible refine Ints.drew ?_)))
    · exact hJx
    · exact ⟨p1 + 1 + 1, by omega, by (repeat (first | with_reducible exact hR3 | refine Rd.far ?_ (by first | omega | (simp; done) | (simp; omega)) _ | refine Rd.alloc ?_ _ | refine Rd.drewN ?_ _ | refine Rd.drew ?_))⟩
    · (repeat (first | exact hO3 | refine Only.far ?_ (by first | omega | (simp; done) | (simp; omega)) (by first | omega | (simp; done) | (simp; omega)) _ | refine Only.alloc ?_ _ | refine Only.drewN ?_ _))
  have q3' : (r == 3) = false := by simpa using q3
  by_cases q4 : r = 4
  · subst q4
    go_wp2
    refine bodyPost_ret (v := .agg #[.slice (some ⟨w2.heap.size, 0, none⟩) 4 4, .int .i64 b, .bool s]) (by simp only [results, Try.results67]; go_simp) rfl ⟨[0, 0, 0, 0], b, s, w2.heap.size, 0, 4, 4, rfl, ⟨?_, by omega, by omega, ?_⟩, ⟨?_, ?_⟩⟩
    · exact Ints.zeros _ (by simp)
    · exact hJb
    · exact ⟨p1 + 1, by omega, by (repeat (first | with_reducible exact hR2 | refine Rd.far ?_ (by first | omega | (simp; done) | (simp; omega)) _ | refine Rd.alloc ?_ _ | refine Rd.drewN ?_ _ | refine Rd.drew ?_))⟩
    · (repeat (first | exact hO2 | refine Only.far ?_ (by first | omega | (simp; done) | (simp; omega)) (by first | omega | (simp; done) | (simp; omega)) _ | refine Only.alloc ?_ _ | refine Only.drewN ?_ _))
  have q4' : (r == 4) = false := by simpa using q4
  by_cases q1 : r = 1
  · subst q1
    have hown2 := hrow2.own
    have hrng := hrow2.rng
    have hl2 : w.heap.size < w2.heap.size := by omega
    have hl3 : w1.heap.size < w2.heap.size := by omega
    have hLa : L3 w2 w.heap.size (.slice none 0 0) (.int .i64 0) (.bool false) := ⟨by go_simp, by go_simp, by go_simp, by go_simp, by go_simp, by go_simp⟩
    have hLb : L3 w2 w1.heap.size (.slice (some ⟨q, 0, none⟩) 4 c) (.int .i64 b) (.bool s) := ⟨by go_simp, by go_simp, by go_simp, by go_simp, by go_simp, by go_simp⟩
    have hvb : (Value.slice (some ⟨q, 0, none⟩) 4 c).ownBlock = some q := rfl
    clear hrow2 hI2
    generalize Value.slice (some ⟨q, 0, none⟩) 4 c = v at *
    go_wp2_with (first | ((at_builtin; refine wpList_append_lies _ (by rfl) (.tmp 17) (.tmp 18) _ (by rfl) (w.heap.size + 1) 3 i0 _ 1 8 Try.underlying29 hi zi0 zi1 zi2 rfl (by omega) v 4 _ (by rfl) (hown2.alloc _) ⟨w2.heap.size, 0, none⟩ 1 1 [.int .i64 (0)] (by rfl) (by rfl) (World.news_of_block (cs := #[.int .i64 (0)]) (t := 3) (fr := (0, 0)) (heap_alloc_new _ _)) (by simp [Value.oneCell']) (by omega) (by unfold maxLen; omega) (by omega) (by simp; omega) (w2.heap.size + 1) (by simp) ?_; intro g' cap' wq hown3 hgrow hat hlt2); have hm2 := (hLa.later ((Below.refl _ _).alloc (Nat.le_refl _) _)).grown hgrow (by rw [hvb]; simp; omega); have hm3 := (hLb.later ((Below.refl _ _).alloc (Nat.le_refl _) _)).grown hgrow (by rw [hvb]; simp; omega); obtain ⟨m0, m1, m2, m3, m4, m5⟩ := hm2; obtain ⟨n0, n1, n2, n3, n4, n5⟩ := hm3; have hO3 : Kept w.heap.size g w wq := (Kept.of_only (hO2.below ((Below.refl _ _).alloc (Nat.le_refl _) _)) (Nat.le_refl _)).grown hgrow (by simp; omega) (fun j hj => by rw [hvb] at hj; injection hj with hj; omega); have hR3 := (hR2.alloc (.cells #[.int .i64 0] 3)).aside hgrow (fun j hj => by rw [hvb] at hj; injection hj with hj; omega); have hs3 := hgrow.size; (try simp at hs3); have hrow3 : Row64 wq (w.heap.size + 1) g' 5 cap' (xs ++ [0]) := ⟨by rw [List.map_append]; exact hown3, snoc_rng hrng (by unfold J64; omega)⟩; clear hown3 hgrow hat hlt2))
    obtain ⟨hq3, hq4⟩ := hrow3.lt
    have hne : g' ≠ w1.heap.size := fun e => by
      have := hrow3.cellAt (k := 2) (by omega)
      rw [e, n2] at this
      cases this
    have hne2 : g' ≠ w.heap.size := by omega
    have hI3 := hrow3.ints (by omega)
    refine bodyPost_ret (v := .agg #[.slice (some ⟨g', 0, none⟩) 5 cap', .int .i64 b, .bool s]) (by simp only [results, Try.results67]; go_simp) rfl ⟨(xs ++ [0]), b, s, g', 0, 5, cap', rfl, ⟨?_, by omega, by omega, ?_⟩, ⟨?_, ?_⟩⟩
    · (repeat (first | with_reducible exact hI3 | (with_reducible refine Ints.far ?_ (by first | omega | (simp; done) | (simp; omega)) _) | (with_reducible refine Ints.alloc ?_ _) | (with_reducible refine Ints.drewN ?_ _) | (with_reducible refine Ints.drew ?_)))
    · exact hJb
    · exact ⟨p1 + 1, by omega, by (repeat (first | with_reducible exact hR3 | refine Rd.far ?_ (by first | omega | (simp; done) | (simp; omega)) _ | refine Rd.alloc ?_ _ | refine Rd.drewN ?_ _ | refine Rd.drew ?_))⟩
    · exact Kept.only (by (repeat (first | with_reducible exact hO3 | (with_reducible refine Kept.set ?_ (by first | omega | (simp; done) | (simp; omega)) _) | (with_reducible refine Kept.alloc ?_ (by first | omega | (simp; done) | (simp; omega)) _) | (with_reducible refine Kept.drewN ?_ _) | (with_reducible refine Kept.drew ?_))))
  have q1' : (r == 1) = false := by simpa using q1
  by_cases q2 : r = 2
  · subst q2
    go_wp2_with fail
    obtain ⟨wz, hwz⟩ : ∃ x : World, x = w := ⟨w, rfl⟩
    clear hwz
    go_region_held3 (fun w' => w'.cell? ⟨w1.heap.size, 0, none⟩ = some (.slice (some ⟨q, 0, none⟩) 4 c)) (simp [go_sem, World.cell?_alloc_past, *])
      ((first
        | (go_at_call 69; refine (pick_any (g := g) (A := A) (cap := cap) (bs := bs) (p := p1 + 1) 4 ?_ (by omega) (by omega) (by omega)).mono ?_; (focus (repeat (first | with_reducible exact hR2 | refine Rd.far ?_ (by first | omega | (simp; done) | (simp; omega)) _ | refine Rd.alloc ?_ _ | refine Rd.drewN ?_ _ | refine Rd.drew ?_))); rintro e w3 ⟨r2, rfl, hr2⟩; have hr20 := hr2.lo; have hr21 := hr2.hi (by omega); have hs3 := hr2.only.size; (try simp at hs3); obtain ⟨kc_, fc_, lc_⟩ := keep_only (a := ⟨w.heap.size, 0, none⟩) (v := .slice none 0 0) hr2.only (by show w.heap.size ≠ g; omega) (by go_simp) (by go_simp); obtain ⟨kc_, fc_, lc_⟩ := keep_only (a := ⟨w.heap.size, 1, none⟩) (v := .int .i64 0) hr2.only (by show w.heap.size ≠ g; omega) (by go_simp) (by go_simp); obtain ⟨kc_, fc_, lc_⟩ := keep_only (a := ⟨w.heap.size, 2, none⟩) (v := .bool false) hr2.only (by show w.heap.size ≠ g; omega) (by go_simp) (by go_simp); obtain ⟨kc_, fc_, lc_⟩ := keep_only (a := ⟨w1.heap.size, 0, none⟩) (v := .slice (some ⟨q, 0, none⟩) 4 c) hr2.only (by show w1.heap.size ≠ g; omega) (by go_simp) (by go_simp); obtain ⟨kc_, fc_, lc_⟩ := keep_only (a := ⟨w1.heap.size, 1, none⟩) (v := .int .i64 b) hr2.only (by show w1.heap.size ≠ g; omega) (by go_simp) (by go_simp); obtain ⟨kc_, fc_, lc_⟩ := keep_only (a := ⟨w1.heap.size, 2, none⟩) (v := .bool s) hr2.only (by show w1.heap.size ≠ g; omega) (by go_simp) (by go_simp); have hO3 : Only g w w3 := Only.trans (by (repeat (first | exact hO2 | refine Only.far ?_ (by first | omega | (simp; done) | (simp; omega)) (by first | omega | (simp; done) | (simp; omega)) _ | refine Only.alloc ?_ _ | refine Only.drew ?_ | refine Only.drewN ?_ _))) hr2.only; have hR3 := hr2.rd; have hrow3 : Row64 w3 (w.heap.size + 1) q 4 c xs := Row64.only (by (repeat (first | with_reducible exact hrow2 | (with_reducible refine Row64.alloc ?_ _) | (with_reducible refine Row64.drew ?_)))) hr2.only (by omega); (first | (have hN := nums_keep [1000000, 1000001, -9223372036854775808] hr2.only (by omega)) | skip); obtain ⟨k, rfl⟩ := Int.eq_ofNat_of_zero_le hr20; clear hr2)
        | (go_at_call 45; refine (num_any (g := g) (A := A) (cap := cap) (bs := bs) (p := p1 + 1 + 1) [1000000, 1000001, -9223372036854775808] _ 0 3 3 ?_ (by omega) (by decide) (by decide) (by decide) ?_ (fun j hj => ?_)).mono ?_; (focus (repeat (first | with_reducible exact hR3 | refine Rd.far ?_ (by first | omega | (simp; done) | (simp; omega)) _ | refine Rd.alloc ?_ _ | refine Rd.drewN ?_ _ | refine Rd.drew ?_))); (focus omega); (focus (first | exact hN j hj | exact alloc_list w3 [1000000, 1000001, -9223372036854775808] 3 j hj)); rintro e w4 ⟨x, rfl, hn⟩; have hs4 := hn.only.size; (try simp at hs4); obtain ⟨kc_, fc_, lc_⟩ := keep_only (a := ⟨w.heap.size, 0, none⟩) (v := .slice none 0 0) hn.only (by show w.heap.size ≠ g; omega) (by go_simp) (by go_simp); obtain ⟨kc_, fc_, lc_⟩ := keep_only (a := ⟨w.heap.size, 1, none⟩) (v := .int .i64 0) hn.only (by show w.heap.size ≠ g; omega) (by go_simp) (by go_simp); obtain ⟨kc_, fc_, lc_⟩ := keep_only (a := ⟨w.heap.size, 2, none⟩) (v := .bool false) hn.only (by show w.heap.size ≠ g; omega) (by go_simp) (by go_simp); obtain ⟨kc_, fc_, lc_⟩ := keep_only (a := ⟨w1.heap.size, 0, none⟩) (v := .slice (some ⟨q, 0, none⟩) 4 c) hn.only (by show w1.heap.size ≠ g; omega) (by go_simp) (by go_simp); obtain ⟨kc_, fc_, lc_⟩ := keep_only (a := ⟨w1.heap.size, 1, none⟩) (v := .int .i64 b) hn.only (by show w1.heap.size ≠ g; omega) (by go_simp) (by go_simp); obtain ⟨kc_, fc_, lc_⟩ := keep_only (a := ⟨w1.heap.size, 2, none⟩) (v := .bool s) hn.only (by show w1.heap.size ≠ g; omega) (by go_simp) (by go_simp); have hO4 : Only g w w4 := Only.trans (by (repeat (first | exact hO3 | refine Only.far ?_ (by first | omega | (simp; done) | (simp; omega)) (by first | omega | (simp; done) | (simp; omega)) _ | refine Only.alloc ?_ _ | refine Only.drew ?_ | refine Only.drewN ?_ _))) hn.only; have hR4 := hn.rd; have hrow4 : Row64 w4 (w.heap.size + 1) q 4 c xs := Row64.only (by (repeat (first | with_reducible exact hrow3 | (with_reducible refine Row64.alloc ?_ _) | (with_reducible refine Row64.drew ?_)))) hn.only (by omega); have hcq := hrow4.cellAt (k := k) (by omega); have hfq := hrow4.own.frozenAt k; have hJx : J64 x := (by have := hn.mem; simp at this; unfold J64; omega); clear hn)))
    all_goals
      have hI5 := (hrow4.stored k hJx).ints (by omega)
      go_wp2
      refine bodyPost_ret (v := .agg #[.slice (some ⟨q, 0, none⟩) 4 c, .int .i64 b, .bool s]) (by simp only [results, Try.results67]; go_simp) rfl ⟨(xs.set k x), b, s, q, 0, 4, c, rfl, ⟨?_, by omega, by omega, ?_⟩, ⟨?_, ?_⟩⟩
      · (repeat (first | with_reducible exact hI5 | (with_reducible refine Ints.far ?_ (by first | omega | (simp; done) | (simp; omega)) _) | (with_reducible refine Ints.alloc ?_ _) | (with_reducible refine Ints.drewN ?_ _) | (with_reducible refine Ints.drew ?_)))
      · exact hJb
      · exact ⟨p1 + 1 + 1 + 1, by omega, by (repeat (first | with_reducible exact hR4 | refine Rd.far ?_ (by first | omega | (simp; done) | (simp; omega)) _ | refine Rd.alloc ?_ _ | refine Rd.drewN ?_ _ | refine Rd.drew ?_))⟩
      · (repeat (first | exact hO4 | refine Only.far ?_ (by first | omega | (simp; done) | (simp; omega)) (by first | omega | (simp; done) | (simp; omega)) _ | refine Only.alloc ?_ _ | refine Only.drew ?_ | refine Only.drewN ?_ _))
  have q2' : (r == 2) = false := by simpa using q2
  go_wp2
  refine bodyPost_ret (v := .agg #[.slice (some ⟨q, 0, none⟩) 4 c, .int .i64 b, .bool s]) (by simp only [results, Try.results67]; go_simp) rfl ⟨xs, b, s, q, 0, 4, c, rfl, ⟨?_, by omega, by omega, ?_⟩, ⟨?_, ?_⟩⟩
  · (repeat (first | with_reducible exact hI2 | (with_reducible refine Ints.far ?_ (by first | omega | (simp; done) | (simp; omega)) _) | (with_reducible refine Ints.alloc ?_ _) | (with_reducible refine Ints.drewN ?_ _) | (with_reducible refine Ints.drew ?_)))
  · exact hJb
  · exact ⟨p1 + 1, by omega, by (repeat (first | with_reducible exact hR2 | refine Rd.far ?_ (by first | omega | (simp; done) | (simp; omega)) _ | refine Rd.alloc ?_ _ | refine Rd.drewN ?_ _ | refine Rd.drew ?_))⟩
  · (repeat (first | exact hO2 | refine Only.far ?_ (by first | omega | (simp; done) | (simp; omega)) (by first | omega | (simp; done) | (simp; omega)) _ | refine Only.alloc ?_ _ | refine Only.drewN ?_ _))
end Go.Proofs.Ytccjbipmlpnhkaa
