/- Constraints at points: contracts. -/
import Derived.Test.YtccjbipmlpnhkaaQ
namespace Go.Proofs.Ytccjbipmlpnhkaa
set_option maxRecDepth 100000
open Go.RowKit Go.ChangeShapes Go.WideShapes Go.ChangeAt
set_option linter.unusedSimpArgs false
set_option linter.unusedVariables false

theorem linAt_inv {xs : List Int} {b : Int} {s : Bool} {vs : List (Int × Int)} (h : (linOk xs b && valsOk vs) = false) : linAt xs b s vs = (false, false) := by
  unfold linAt; rw [if_neg (by rw [h]; simp)]
theorem sumTo_none {xs : List Int} {vs : List (Int × Int)} {k : Nat} (h : sumTo xs vs k = none) : ∀ {m : Nat}, k ≤ m → sumTo xs vs m = none
  | 0, hm => by obtain rfl : k = 0 := by omega
                exact h
  | m + 1, hm => by
    by_cases e : k = m + 1
    · subst e; exact h
    · simp only [sumTo, sumTo_none h (show k ≤ m by omega), Option.bind_none]
theorem linAt_none {xs : List Int} {b : Int} {s : Bool} {vs : List (Int × Int)} {k : Nat} (hx : linOk xs b = true) (hv : valsOk vs = true) (h : sumTo xs vs k = none) (hk : k ≤ 4) : linAt xs b s vs = (false, false) := by
  unfold linAt; rw [hx, hv, sumTo_none h hk]; rfl
theorem linAt_some {xs : List Int} {b : Int} {s : Bool} {vs : List (Int × Int)} {p q : Int} (hx : linOk xs b = true) (hv : valsOk vs = true) (h : sumTo xs vs 4 = some (p, q)) : linAt xs b s vs = (holdsB p q b s, true) := by
  unfold linAt; rw [hx, hv, h]; rfl
theorem linAt_below {xs : List Int} {b : Int} {s : Bool} {vs : List (Int × Int)} {p q : Int} (hx : linOk xs b = true) (hv : valsOk vs = true) (h : sumTo xs vs 4 = some (p, q)) : linAt xs b s vs = (belowB p q b s, true) := by
  rw [linAt_some hx hv h, belowB_eq (sumTo_val h).2 (linOk_len hx).2.1]
theorem sumTo_plus {xs : List Int} {vs : List (Int × Int)} {k : Nat} {p q : Int} (h : sumTo xs vs k = some (p, q)) {X Y : Int} {t : Bool} (H : plusV p q (xs.getD k 0) (vs.getD k (0, 0)).1 (vs.getD k (0, 0)).2 = (X, Y, t)) :
    (t = true → sumTo xs vs (k + 1) = some (X, Y)) ∧ (t = false → sumTo xs vs (k + 1) = none) := by
  have e : sumTo xs vs (k + 1) = plusR (p, q) (xs.getD k 0) (vs.getD k (0, 0)) := by simp [sumTo, h]
  rw [e]
  unfold plusV at H
  split at H
  · rename_i p' q' hs
    simp only [Prod.mk.injEq] at H
    obtain ⟨rfl, rfl, rfl⟩ := H
    exact ⟨fun _ => hs, fun h => (by cases h)⟩
  · rename_i hs
    simp only [Prod.mk.injEq] at H
    obtain ⟨_, _, rfl⟩ := H
    exact ⟨fun h => (by cases h), fun _ => hs⟩

set_option maxHeartbeats 8000000 in
theorem iLinAt_any {A A' : Option Addr} {n n' c c' : Nat} {xs : List Int} {vs : List (Int × Int)} (b : Int) (s : Bool) {w : World} (h : Ints w A n xs) (h' : Rats w A' n' vs) :
    Calls Try.prog 17 #[.agg #[.slice A n c, .int .i64 b, .bool s], .slice A' n' c'] w fun e w' => e = .returned (.tuple #[.bool (linAt xs b s vs).1, .bool (linAt xs b s vs).2]) ∧ Below w.heap.size w w' := by
  cases hx : linOk xs b
  · rw [linAt_inv (by rw [hx]; rfl)]
    go_enter Try.func17, Try.ntmps17
    go_wp2_with fail
    refine (iLinOk_any (xs := xs) b s (h.later (by (repeat (first | with_reducible exact Below.refl _ _ | with_reducible assumption | (with_reducible refine below_drewN ?_ _) | (with_reducible refine Below.drew ?_) | (with_reducible refine Below.setCell ?_ (by first | omega | (simp; done) | (simp; omega)) _) | (with_reducible refine Below.alloc ?_ (by first | omega | (simp; done) | (simp; omega)) _) | refine Below.trans ?_ (Below.mono (by with_reducible assumption) (by first | omega | (simp; done) | (simp; omega)))))))).mono ?_
    rintro e w1 ⟨rfl, hb1⟩
    have hz1 := hb1.size; (try simp at hz1); have hB1 : Below w.heap.size w w1 := (by refine Below.trans ?_ (Below.mono hb1 (by first | omega | (simp; done) | (simp; omega))); (repeat (first | with_reducible exact Below.refl _ _ | with_reducible assumption | (with_reducible refine below_drewN ?_ _) | (with_reducible refine Below.drew ?_) | (with_reducible refine Below.setCell ?_ (by first | omega | (simp; done) | (simp; omega)) _) | (with_reducible refine Below.alloc ?_ (by first | omega | (simp; done) | (simp; omega)) _) | refine Below.trans ?_ (Below.mono (by with_reducible assumption) (by first | omega | (simp; done) | (simp; omega)))))); (obtain ⟨kc_, fc_, lc_⟩ := keep_later (a := ⟨w.heap.size, 0, none⟩) (v := .slice A n c) hb1 (by go_simp) (by go_simp); obtain ⟨kc_, fc_, lc_⟩ := keep_later (a := ⟨w.heap.size, 1, none⟩) (v := .int .i64 b) hb1 (by go_simp) (by go_simp); obtain ⟨kc_, fc_, lc_⟩ := keep_later (a := ⟨w.heap.size, 2, none⟩) (v := .bool s) hb1 (by go_simp) (by go_simp)); clear hb1
    rw [hx]
    go_wp2
    go_ret2
    exact ⟨rfl, by (repeat (first | with_reducible exact Below.refl _ _ | with_reducible assumption | (with_reducible refine below_drewN ?_ _) | (with_reducible refine Below.drew ?_) | (with_reducible refine Below.setCell ?_ (by first | omega | (simp; done) | (simp; omega)) _) | (with_reducible refine Below.alloc ?_ (by first | omega | (simp; done) | (simp; omega)) _) | refine Below.trans ?_ (Below.mono (by with_reducible assumption) (by first | omega | (simp; done) | (simp; omega)))))⟩
  cases hv : valsOk vs
  · rw [linAt_inv (by rw [hx, hv]; rfl)]
    go_enter Try.func17, Try.ntmps17
    go_wp2_with fail
    refine (iLinOk_any (xs := xs) b s (h.later (by (repeat (first | with_reducible exact Below.refl _ _ | with_reducible assumption | (with_reducible refine below_drewN ?_ _) | (with_reducible refine Below.drew ?_) | (with_reducible refine Below.setCell ?_ (by first | omega | (simp; done) | (simp; omega)) _) | (with_reducible refine Below.alloc ?_ (by first | omega | (simp; done) | (simp; omega)) _) | refine Below.trans ?_ (Below.mono (by with_reducible assumption) (by first | omega | (simp; done) | (simp; omega)))))))).mono ?_
    rintro e w1 ⟨rfl, hb1⟩
    have hz1 := hb1.size; (try simp at hz1); have hB1 : Below w.heap.size w w1 := (by refine Below.trans ?_ (Below.mono hb1 (by first | omega | (simp; done) | (simp; omega))); (repeat (first | with_reducible exact Below.refl _ _ | with_reducible assumption | (with_reducible refine below_drewN ?_ _) | (with_reducible refine Below.drew ?_) | (with_reducible refine Below.setCell ?_ (by first | omega | (simp; done) | (simp; omega)) _) | (with_reducible refine Below.alloc ?_ (by first | omega | (simp; done) | (simp; omega)) _) | refine Below.trans ?_ (Below.mono (by with_reducible assumption) (by first | omega | (simp; done) | (simp; omega)))))); (obtain ⟨kc_, fc_, lc_⟩ := keep_later (a := ⟨w.heap.size, 0, none⟩) (v := .slice A n c) hb1 (by go_simp) (by go_simp); obtain ⟨kc_, fc_, lc_⟩ := keep_later (a := ⟨w.heap.size, 1, none⟩) (v := .int .i64 b) hb1 (by go_simp) (by go_simp); obtain ⟨kc_, fc_, lc_⟩ := keep_later (a := ⟨w.heap.size, 2, none⟩) (v := .bool s) hb1 (by go_simp) (by go_simp)); clear hb1
    rw [hx]
    go_wp2_with fail
    refine (isAssignment_any (vs := vs) (h'.later (by (repeat (first | with_reducible exact Below.refl _ _ | with_reducible assumption | (with_reducible refine below_drewN ?_ _) | (with_reducible refine Below.drew ?_) | (with_reducible refine Below.setCell ?_ (by first | omega | (simp; done) | (simp; omega)) _) | (with_reducible refine Below.alloc ?_ (by first | omega | (simp; done) | (simp; omega)) _) | refine Below.trans ?_ (Below.mono (by with_reducible assumption) (by first | omega | (simp; done) | (simp; omega)))))))).mono ?_
    rintro e w2 ⟨rfl, hb1⟩
    have hz1 := hb1.size; (try simp at hz1); have hB1 : Below w.heap.size w w2 := (by refine Below.trans ?_ (Below.mono hb1 (by first | omega | (simp; done) | (simp; omega))); (repeat (first | with_reducible exact Below.refl _ _ | with_reducible assumption | (with_reducible refine below_drewN ?_ _) | (with_reducible refine Below.drew ?_) | (with_reducible refine Below.setCell ?_ (by first | omega | (simp; done) | (simp; omega)) _) | (with_reducible refine Below.alloc ?_ (by first | omega | (simp; done) | (simp; omega)) _) | refine Below.trans ?_ (Below.mono (by with_reducible assumption) (by first | omega | (simp; done) | (simp; omega)))))); (obtain ⟨kc_, fc_, lc_⟩ := keep_later (a := ⟨w.heap.size, 0, none⟩) (v := .slice A n c) hb1 (by go_simp) (by go_simp); obtain ⟨kc_, fc_, lc_⟩ := keep_later (a := ⟨w.heap.size, 1, none⟩) (v := .int .i64 b) hb1 (by go_simp) (by go_simp); obtain ⟨kc_, fc_, lc_⟩ := keep_later (a := ⟨w.heap.size, 2, none⟩) (v := .bool s) hb1 (by go_simp) (by go_simp)); clear hb1
    rw [hv]
    go_wp2
    go_ret2
    exact ⟨rfl, by (repeat (first | with_reducible exact Below.refl _ _ | with_reducible assumption | (with_reducible refine below_drewN ?_ _) | (with_reducible refine Below.drew ?_) | (with_reducible refine Below.setCell ?_ (by first | omega | (simp; done) | (simp; omega)) _) | (with_reducible refine Below.alloc ?_ (by first | omega | (simp; done) | (simp; omega)) _) | refine Below.trans ?_ (Below.mono (by with_reducible assumption) (by first | omega | (simp; done) | (simp; omega)))))⟩
  obtain ⟨hl4, hbb, hok⟩ := linOk_len hx
  have hn : n = 4 := h.len.symm.trans hl4
  have hn' : n' = 4 := by
    have := hv
    rw [valsOk_eq, Bool.and_eq_true, decide_eq_true_eq] at this
    exact h'.len.symm.trans this.2
  subst hn hn'
  have HX := Lib.hid hx
  have HV := Lib.hid hv
  clear hl4 hbb hok
  obtain ⟨a1, a2, ha⟩ : ∃ a1 a2, linAt xs b s vs = (a1, a2) := ⟨_, _, rfl⟩
  rw [ha]
  have HR := Lib.hid ha
  clear ha
  go_enter Try.func17, Try.ntmps17
  go_wp2_with fail
  refine (iLinOk_any (xs := xs) b s (h.later (by (repeat (first | with_reducible exact Below.refl _ _ | with_reducible assumption | (with_reducible refine below_drewN ?_ _) | (with_reducible refine Below.drew ?_) | (with_reducible refine Below.setCell ?_ (by first | omega | (simp; done) | (simp; omega)) _) | (with_reducible refine Below.alloc ?_ (by first | omega | (simp; done) | (simp; omega)) _) | refine Below.trans ?_ (Below.mono (by with_reducible assumption) (by first | omega | (simp; done) | (simp; omega)))))))).mono ?_
  rintro e w1 ⟨rfl, hb1⟩
  have hz1 := hb1.size; (try simp at hz1); have hB1 : Below w.heap.size w w1 := (by refine Below.trans ?_ (Below.mono hb1 (by first | omega | (simp; done) | (simp; omega))); (repeat (first | with_reducible exact Below.refl _ _ | with_reducible assumption | (with_reducible refine below_drewN ?_ _) | (with_reducible refine Below.drew ?_) | (with_reducible refine Below.setCell ?_ (by first | omega | (simp; done) | (simp; omega)) _) | (with_reducible refine Below.alloc ?_ (by first | omega | (simp; done) | (simp; omega)) _) | refine Below.trans ?_ (Below.mono (by with_reducible assumption) (by first | omega | (simp; done) | (simp; omega)))))); (obtain ⟨kc_, fc_, lc_⟩ := keep_later (a := ⟨w.heap.size, 0, none⟩) (v := .slice A 4 c) hb1 (by go_simp) (by go_simp); obtain ⟨kc_, fc_, lc_⟩ := keep_later (a := ⟨w.heap.size, 1, none⟩) (v := .int .i64 b) hb1 (by go_simp) (by go_simp); obtain ⟨kc_, fc_, lc_⟩ := keep_later (a := ⟨w.heap.size, 2, none⟩) (v := .bool s) hb1 (by go_simp) (by go_simp)); clear hb1
  rw [hx]
  clear hx
  go_wp2_with fail
  refine (isAssignment_any (vs := vs) (h'.later (by (repeat (first | with_reducible exact Below.refl _ _ | with_reducible assumption | (with_reducible refine below_drewN ?_ _) | (with_reducible refine Below.drew ?_) | (with_reducible refine Below.setCell ?_ (by first | omega | (simp; done) | (simp; omega)) _) | (with_reducible refine Below.alloc ?_ (by first | omega | (simp; done) | (simp; omega)) _) | refine Below.trans ?_ (Below.mono (by with_reducible assumption) (by first | omega | (simp; done) | (simp; omega)))))))).mono ?_
  rintro e w2 ⟨rfl, hb1⟩
  have hz1 := hb1.size; (try simp at hz1); have hB1 : Below w.heap.size w w2 := (by refine Below.trans ?_ (Below.mono hb1 (by first | omega | (simp; done) | (simp; omega))); (repeat (first | with_reducible exact Below.refl _ _ | with_reducible assumption | (with_reducible refine below_drewN ?_ _) | (with_reducible refine Below.drew ?_) | (with_reducible refine Below.setCell ?_ (by first | omega | (simp; done) | (simp; omega)) _) | (with_reducible refine Below.alloc ?_ (by first | omega | (simp; done) | (simp; omega)) _) | refine Below.trans ?_ (Below.mono (by with_reducible assumption) (by first | omega | (simp; done) | (simp; omega)))))); (obtain ⟨kc_, fc_, lc_⟩ := keep_later (a := ⟨w.heap.size, 0, none⟩) (v := .slice A 4 c) hb1 (by go_simp) (by go_simp); obtain ⟨kc_, fc_, lc_⟩ := keep_later (a := ⟨w.heap.size, 1, none⟩) (v := .int .i64 b) hb1 (by go_simp) (by go_simp); obtain ⟨kc_, fc_, lc_⟩ := keep_later (a := ⟨w.heap.size, 2, none⟩) (v := .bool s) hb1 (by go_simp) (by go_simp)); clear hb1
  rw [hv]
  clear hv
  go_wp2_with fail
  refine (whole_any 0 _).mono ?_
  rintro e w3 ⟨rfl, hb1⟩
  have hz1 := hb1.size; (try simp at hz1); have hB1 : Below w.heap.size w w3 := (by refine Below.trans ?_ (Below.mono hb1 (by first | omega | (simp; done) | (simp; omega))); (repeat (first | with_reducible exact Below.refl _ _ | with_reducible assumption | (with_reducible refine below_drewN ?_ _) | (with_reducible refine Below.drew ?_) | (with_reducible refine Below.setCell ?_ (by first | omega | (simp; done) | (simp; omega)) _) | (with_reducible refine Below.alloc ?_ (by first | omega | (simp; done) | (simp; omega)) _) | refine Below.trans ?_ (Below.mono (by with_reducible assumption) (by first | omega | (simp; done) | (simp; omega)))))); (obtain ⟨kc_, fc_, lc_⟩ := keep_later (a := ⟨w.heap.size, 0, none⟩) (v := .slice A 4 c) hb1 (by go_simp) (by go_simp); obtain ⟨kc_, fc_, lc_⟩ := keep_later (a := ⟨w.heap.size, 1, none⟩) (v := .int .i64 b) hb1 (by go_simp) (by go_simp); obtain ⟨kc_, fc_, lc_⟩ := keep_later (a := ⟨w.heap.size, 2, none⟩) (v := .bool s) hb1 (by go_simp) (by go_simp)); clear hb1
  go_wp2_with fail
  go_loopw [23] (fun i wr => ∃ (k : Nat) (p q : Int), k ≤ 4 ∧ i = .int .i64 k ∧ Hid (sumTo xs vs k = some (p, q)) ∧ Lv wr w3.heap.size p q ∧ Below w3.heap.size w3 wr) (fun i _ => 4 - (intOf i).toNat)
  case atStart => exact ⟨0, 0, 1, by omega, rfl, Lib.hid rfl, ⟨by go_simp, by go_simp, by go_simp, by go_simp, (by first | omega | (simp; done) | (simp; omega))⟩, by (repeat (first | with_reducible exact Below.refl _ _ | with_reducible assumption | (with_reducible refine below_drewN ?_ _) | (with_reducible refine Below.drew ?_) | (with_reducible refine Below.setCell ?_ (by first | omega | (simp; done) | (simp; omega)) _) | (with_reducible refine Below.alloc ?_ (by first | omega | (simp; done) | (simp; omega)) _) | refine Below.trans ?_ (Below.mono (by with_reducible assumption) (by first | omega | (simp; done) | (simp; omega)))))⟩
  case round =>
    obtain ⟨k, p, q, hk, rfl, HS, ⟨k1, k2, k3, k4, k5⟩, hBr⟩ := hrel
    have hb1 := hBr
    have hzr := hBr.size
    obtain ⟨kc_, fc_, lc_⟩ := keep_later (a := ⟨w.heap.size, 0, none⟩) (v := .slice A 4 c) hb1 (by go_simp) (by go_simp); obtain ⟨kc_, fc_, lc_⟩ := keep_later (a := ⟨w.heap.size, 1, none⟩) (v := .int .i64 b) hb1 (by go_simp) (by go_simp); obtain ⟨kc_, fc_, lc_⟩ := keep_later (a := ⟨w.heap.size, 2, none⟩) (v := .bool s) hb1 (by go_simp) (by go_simp)
    clear hb1
    have hBw : Below w.heap.size w wr := by (repeat (first | with_reducible exact Below.refl _ _ | with_reducible assumption | (with_reducible refine below_drewN ?_ _) | (with_reducible refine Below.drew ?_) | (with_reducible refine Below.setCell ?_ (by first | omega | (simp; done) | (simp; omega)) _) | (with_reducible refine Below.alloc ?_ (by first | omega | (simp; done) | (simp; omega)) _) | refine Below.trans ?_ (Below.mono (by with_reducible assumption) (by first | omega | (simp; done) | (simp; omega)))))
    by_cases hlt : k < 4
    · obtain ⟨bp, o, rfl, hp, hc⟩ := h.cells (by omega)
      obtain ⟨bp', o', rfl, hp', hc'⟩ := h'.cells (by omega)
      have hck : wr.cell? ⟨bp, o + k, none⟩ = some (.int .i64 (xs.getD k 0)) := (hBw.cell (p := ⟨bp, o + k, none⟩) hp).trans (hc k hlt)
      have hc1 : wr.cell? ⟨bp', o' + k * 2, none⟩ = some (.int .i64 (vs.getD k (0, 0)).1) := (hBw.cell (p := ⟨bp', o' + k * 2, none⟩) hp').trans (hc' k hlt).1
      have hc2 : wr.cell? ⟨bp', o' + k * 2 + 1, none⟩ = some (.int .i64 (vs.getD k (0, 0)).2) := (hBw.cell (p := ⟨bp', o' + k * 2 + 1, none⟩) hp').trans (hc' k hlt).2
      have hpr : bp < wr.heap.size := by have := hBw.size; omega
      have hpr' : bp' < wr.heap.size := by have := hBw.size; omega
      clear hc hc'
      obtain ⟨X, Y, t, hpl⟩ : ∃ X Y t, plusV p q (xs.getD k 0) (vs.getD k (0, 0)).1 (vs.getD k (0, 0)).2 = (X, Y, t) := ⟨_, _, _, rfl⟩
      obtain ⟨hy, hno⟩ := sumTo_plus HS.out hpl
      have HP := Lib.hid hpl
      have HY := Lib.hid hy
      have HN := Lib.hid hno
      clear hpl hy hno HS
      generalize xs.getD k 0 = x at *
      generalize (vs.getD k (0, 0)).1 = v1 at *
      generalize (vs.getD k (0, 0)).2 = v2 at *
      go_wp2_with fail
      obtain ⟨w1, hw1⟩ : ∃ x : World, x = w := ⟨w, rfl⟩
      clear hw1
      go_region_held3 (fun w' => w'.cell? ⟨w3.heap.size, 0, none⟩ = some (.int .i64 p) ∧ w'.cell? ⟨w3.heap.size, 1, none⟩ = some (.int .i64 q) ∧ w'.cell? ⟨bp', o' + k * 2, none⟩ = some (.int .i64 v1) ∧ w'.cell? ⟨bp', o' + k * 2 + 1, none⟩ = some (.int .i64 v2)) (simp [go_sem, World.cell?_alloc_past, *])
        (first
          | (go_at_call 59; rename World => wp; refine (plus_any p q x v1 v2 X Y t HP _).mono ?_; rintro e w1 ⟨rfl, hb1⟩; have hz1 := hb1.size; (try simp at hz1); have hB1 : Below w.heap.size w w1 := (by refine Below.trans ?_ (Below.mono hb1 (by first | omega | (simp; done) | (simp; omega))); (repeat (first | with_reducible exact Below.refl _ _ | with_reducible assumption | (with_reducible refine below_drewN ?_ _) | (with_reducible refine Below.drew ?_) | (with_reducible refine Below.setCell ?_ (by first | omega | (simp; done) | (simp; omega)) _) | (with_reducible refine Below.alloc ?_ (by first | omega | (simp; done) | (simp; omega)) _) | refine Below.trans ?_ (Below.mono (by with_reducible assumption) (by first | omega | (simp; done) | (simp; omega)))))); have hC1 : Below w3.heap.size w3 w1 := (by refine Below.trans ?_ (Below.mono hb1 (by first | omega | (simp; done) | (simp; omega))); (repeat (first | with_reducible exact Below.refl _ _ | with_reducible assumption | (with_reducible refine below_drewN ?_ _) | (with_reducible refine Below.drew ?_) | (with_reducible refine Below.setCell ?_ (by first | omega | (simp; done) | (simp; omega)) _) | (with_reducible refine Below.alloc ?_ (by first | omega | (simp; done) | (simp; omega)) _) | refine Below.trans ?_ (Below.mono (by with_reducible assumption) (by first | omega | (simp; done) | (simp; omega)))))); obtain ⟨kc_, fc_, lc_⟩ := keep_later (a := ⟨w.heap.size, 0, none⟩) (v := .slice (some ⟨bp, o, none⟩) 4 c) hb1 (by go_simp) (by go_simp); obtain ⟨kc_, fc_, lc_⟩ := keep_later (a := ⟨w.heap.size, 1, none⟩) (v := .int .i64 b) hb1 (by go_simp) (by go_simp); obtain ⟨kc_, fc_, lc_⟩ := keep_later (a := ⟨w.heap.size, 2, none⟩) (v := .bool s) hb1 (by go_simp) (by go_simp); obtain ⟨kc_, fc_, lc_⟩ := keep_later (a := ⟨w3.heap.size, 0, none⟩) (v := .int .i64 p) hb1 (by go_simp) (by go_simp); obtain ⟨kc_, fc_, lc_⟩ := keep_later (a := ⟨w3.heap.size, 1, none⟩) (v := .int .i64 q) hb1 (by go_simp) (by go_simp); (have kc1 := keep_cell (a := ⟨bp', o' + k * 2, none⟩) (v := .int .i64 v1) hb1 (by go_simp)); (have kc2 := keep_cell (a := ⟨bp', o' + k * 2 + 1, none⟩) (v := .int .i64 v2) hb1 (by go_simp)); (have lc1 := World.block_lt_of_cell? _ _ kc1; (try dsimp only at lc1)); (first | (refine with_keep hb1 kn0 fn0 ?_; refine with_keep hb1 kn1 fn1 ?_; clear kn0 fn0 kn1 fn1; intro kn1 fn1 ln1 kn0 fn0 ln0) | (refine with_new (wp := wp) (v0 := .int .i64 0) (v1 := .int .i64 0) (t := 82) hb1 ?_; intro kn0 fn0 kn1 fn1 ln0) | (refine with_newd (wp := wr) (v0 := .int .i64 0) (v1 := .int .i64 0) (t := 82) hb1 ?_; intro kn0 fn0 kn1 fn1 ln0; (try simp only [World.size_alloc] at kn0 fn0 kn1 fn1 ln0)) | skip); clear hb1))
      all_goals
        cases t
        · have hlin : linAt xs b s vs = (false, false) := linAt_none HX.out HV.out (HN.out rfl) (by omega)
          have he := HR.out.symm.trans hlin
          simp only [Prod.mk.injEq] at he
          obtain ⟨rfl, rfl⟩ := he
          go_wp2
          go_ret2
          exact ⟨rfl, by (repeat (first | with_reducible exact Below.refl _ _ | with_reducible assumption | (with_reducible refine below_drewN ?_ _) | (with_reducible refine Below.drew ?_) | (with_reducible refine Below.setCell ?_ (by first | omega | (simp; done) | (simp; omega)) _) | (with_reducible refine Below.alloc ?_ (by first | omega | (simp; done) | (simp; omega)) _) | refine Below.trans ?_ (Below.mono (by with_reducible assumption) (by first | omega | (simp; done) | (simp; omega)))))⟩
        · go_wp2
          go_roundw
          case rel => exact ⟨k + 1, X, Y, by omega, by go_num, Lib.hid (HY.out rfl), ⟨by go_simp, by go_simp, by go_simp, by go_simp, (by first | omega | (simp; done) | (simp; omega))⟩, by (repeat (first | with_reducible exact Below.refl _ _ | with_reducible assumption | (with_reducible refine below_drewN ?_ _) | (with_reducible refine Below.drew ?_) | (with_reducible refine Below.setCell ?_ (by first | omega | (simp; done) | (simp; omega)) _) | (with_reducible refine Below.alloc ?_ (by first | omega | (simp; done) | (simp; omega)) _) | refine Below.trans ?_ (Below.mono (by with_reducible assumption) (by first | omega | (simp; done) | (simp; omega)))))⟩
          case measure => simp [intOf]; omega
    · obtain rfl : k = 4 := by omega
      have hlin := linAt_below (s := s) HX.out HV.out HS.out
      have he := HR.out.symm.trans hlin
      simp only [Prod.mk.injEq] at he
      obtain ⟨rfl, rfl⟩ := he
      go_wp2_with fail
      refine (below_any p q b s _).mono ?_
      rintro e w9 ⟨rfl, hb1⟩
      have hz1 := hb1.size; (try simp at hz1); have hB1 : Below w.heap.size w w9 := (by refine Below.trans ?_ (Below.mono hb1 (by first | omega | (simp; done) | (simp; omega))); (repeat (first | with_reducible exact Below.refl _ _ | with_reducible assumption | (with_reducible refine below_drewN ?_ _) | (with_reducible refine Below.drew ?_) | (with_reducible refine Below.setCell ?_ (by first | omega | (simp; done) | (simp; omega)) _) | (with_reducible refine Below.alloc ?_ (by first | omega | (simp; done) | (simp; omega)) _) | refine Below.trans ?_ (Below.mono (by with_reducible assumption) (by first | omega | (simp; done) | (simp; omega))))))
      clear hb1
      go_wp2
      go_ret2
      exact ⟨rfl, by (repeat (first | with_reducible exact Below.refl _ _ | with_reducible assumption | (with_reducible refine below_drewN ?_ _) | (with_reducible refine Below.drew ?_) | (with_reducible refine Below.setCell ?_ (by first | omega | (simp; done) | (simp; omega)) _) | (with_reducible refine Below.alloc ?_ (by first | omega | (simp; done) | (simp; omega)) _) | refine Below.trans ?_ (Below.mono (by with_reducible assumption) (by first | omega | (simp; done) | (simp; omega)))))⟩
theorem sumTo_step {xs : List Int} {vs : List (Int × Int)} {k : Nat} {p q : Int} (h : sumTo xs vs k = some (p, q)) {X Y P Q : Int} {t u : Bool} (H : mulR (xs.getD k 0) 1 (vs.getD k (0, 0)).1 (vs.getD k (0, 0)).2 = (X, Y, t)) (K : addR p q X Y = (P, Q, u)) :
    (t = false → sumTo xs vs (k + 1) = none) ∧ (t = true → u = false → sumTo xs vs (k + 1) = none) ∧ (t = true → u = true → sumTo xs vs (k + 1) = some (P, Q)) := by
  have e : sumTo xs vs (k + 1) = plusR (p, q) (xs.getD k 0) (vs.getD k (0, 0)) := by simp [sumTo, h]
  rw [e]
  refine ⟨?_, ?_, ?_⟩
  · rintro rfl
    unfold plusR
    rw [H]
  · rintro rfl rfl
    unfold plusR
    rw [H]
    simp only
    rw [K]
  · rintro rfl rfl
    unfold plusR
    rw [H]
    simp only
    rw [K]

/-- the sum of all products, if there is one -/
def SumBack (xs : List Int) (vs : List (Int × Int)) (w : World) (e : Ending) (w' : World) : Prop :=
  ∃ (p q : Int) (t : Bool), e = .returned (.tuple #[.agg #[.int .i64 p, .int .i64 q], .bool t]) ∧ ((t = true → sumTo xs vs 4 = some (p, q)) ∧ (t = false → sumTo xs vs 4 = none)) ∧ Below w.heap.size w w'
set_option maxHeartbeats 8000000 in
theorem l2Sum_any {A A' : Option Addr} {c c' : Nat} {xs : List Int} {vs : List (Int × Int)} (b : Int) (s : Bool) {w : World} (h : Ints w A 4 xs) (h' : Rats w A' 4 vs) :
    Calls Try.prog 98 #[.agg #[.slice A 4 c, .int .i64 b, .bool s], .slice A' 4 c'] w (SumBack xs vs w) := by
  obtain ⟨w1, hw1⟩ : ∃ x : World, x = w := ⟨w, rfl⟩
  clear hw1
  go_enter Try.func98, Try.ntmps98
  go_wp2_with fail
  go_loopw [7] (fun i wr => ∃ (k : Nat) (p q : Int), k ≤ 4 ∧ i = .int .i64 k ∧ Hid (sumTo xs vs k = some (p, q)) ∧ L3 wr w.heap.size (.slice A 4 c) (.int .i64 b) (.bool s) ∧ Lv wr (w.heap.size + 1) 0 0 ∧ Lv wr (w.heap.size + 1 + 1) p q ∧ Below w.heap.size w wr) (fun i _ => 4 - (intOf i).toNat)
  case atStart => exact ⟨0, 0, 1, by omega, rfl, Lib.hid rfl, ⟨by go_simp, by go_simp, by go_simp, by go_simp, by go_simp, by go_simp⟩, ⟨by go_simp, by go_simp, by go_simp, by go_simp, (by first | omega | (simp; done) | (simp; omega))⟩, ⟨by go_simp, by go_simp, by go_simp, by go_simp, (by first | omega | (simp; done) | (simp; omega))⟩, by (repeat (first | with_reducible exact Below.refl _ _ | with_reducible assumption | (with_reducible refine below_drewN ?_ _) | (with_reducible refine Below.drew ?_) | (with_reducible refine Below.setCell ?_ (by first | omega | (simp; done) | (simp; omega)) _) | (with_reducible refine Below.alloc ?_ (by first | omega | (simp; done) | (simp; omega)) _) | refine Below.trans ?_ (Below.mono (by with_reducible assumption) (by first | omega | (simp; done) | (simp; omega)))))⟩
  case round =>
    obtain ⟨k, p, q, hk, rfl, HS, ⟨l0, l1, l2, l3, l4, l5⟩, ⟨r1, r2, r3, r4, r5⟩, ⟨k1, k2, k3, k4, k5⟩, hBw⟩ := hrel
    have hzr := hBw.size
    have hl0 := World.block_lt_of_cell? _ _ l0
    dsimp only at hl0
    by_cases hlt : k < 4
    · obtain ⟨bp, o, rfl, hp, hc⟩ := h.cells (by omega)
      obtain ⟨bp', o', rfl, hp', hc'⟩ := h'.cells (by omega)
      have hck : wr.cell? ⟨bp, o + k, none⟩ = some (.int .i64 (xs.getD k 0)) := (hBw.cell (p := ⟨bp, o + k, none⟩) hp).trans (hc k hlt)
      have hc1 : wr.cell? ⟨bp', o' + k * 2, none⟩ = some (.int .i64 (vs.getD k (0, 0)).1) := (hBw.cell (p := ⟨bp', o' + k * 2, none⟩) hp').trans (hc' k hlt).1
      have hc2 : wr.cell? ⟨bp', o' + k * 2 + 1, none⟩ = some (.int .i64 (vs.getD k (0, 0)).2) := (hBw.cell (p := ⟨bp', o' + k * 2 + 1, none⟩) hp').trans (hc' k hlt).2
      have hpr : bp < wr.heap.size := by omega
      have hpr' : bp' < wr.heap.size := by omega
      clear hc hc'
      obtain ⟨X, Y, t, hm⟩ : ∃ X Y t, mulR (xs.getD k 0) 1 (vs.getD k (0, 0)).1 (vs.getD k (0, 0)).2 = (X, Y, t) := ⟨_, _, _, rfl⟩
      obtain ⟨P, Q, u, ha⟩ : ∃ P Q u, addR p q X Y = (P, Q, u) := ⟨_, _, _, rfl⟩
      obtain ⟨hn1, hn2, hyes⟩ := sumTo_step HS.out hm ha
      have HM := Lib.hid hm
      have HA := Lib.hid ha
      have H1 := Lib.hid hn1
      have H2 := Lib.hid hn2
      have H3 := Lib.hid hyes
      clear hm ha hn1 hn2 hyes HS
      generalize xs.getD k 0 = x at *
      generalize (vs.getD k (0, 0)).1 = v1 at *
      generalize (vs.getD k (0, 0)).2 = v2 at *
      go_wp2_with fail
      obtain ⟨wz, hwz⟩ : ∃ y : World, y = w := ⟨w, rfl⟩
      clear hwz
      go_region_held3 (fun w' => w'.cell? ⟨w.heap.size, 0, none⟩ = some (.slice (some ⟨bp, o, none⟩) 4 c) ∧ w'.cell? ⟨bp, o + k, none⟩ = some (.int .i64 x) ∧ w'.cell? ⟨bp', o' + k * 2, none⟩ = some (.int .i64 v1) ∧ w'.cell? ⟨bp', o' + k * 2 + 1, none⟩ = some (.int .i64 v2)) (simp [go_sem, World.cell?_alloc_past, *])
        (first
          | (go_at_call 120; rename World => wp; refine (sRatMul_any x 1 v1 v2 X Y t HM _).mono ?_; rintro e w1 ⟨rfl, hb1⟩; have hz1 := hb1.size; (try simp at hz1); have hB1 : Below w.heap.size w w1 := (by refine Below.trans ?_ (Below.mono hb1 (by first | omega | (simp; done) | (simp; omega))); (repeat (first | with_reducible exact Below.refl _ _ | with_reducible assumption | (with_reducible refine below_drewN ?_ _) | (with_reducible refine Below.drew ?_) | (with_reducible refine Below.setCell ?_ (by first | omega | (simp; done) | (simp; omega)) _) | (with_reducible refine Below.alloc ?_ (by first | omega | (simp; done) | (simp; omega)) _) | refine Below.trans ?_ (Below.mono (by with_reducible assumption) (by first | omega | (simp; done) | (simp; omega)))))); obtain ⟨kc_, fc_, lc_⟩ := keep_later (a := ⟨w.heap.size, 0, none⟩) (v := .slice (some ⟨bp, o, none⟩) 4 c) hb1 (by go_simp) (by go_simp); obtain ⟨kc_, fc_, lc_⟩ := keep_later (a := ⟨w.heap.size, 1, none⟩) (v := .int .i64 b) hb1 (by go_simp) (by go_simp); obtain ⟨kc_, fc_, lc_⟩ := keep_later (a := ⟨w.heap.size, 2, none⟩) (v := .bool s) hb1 (by go_simp) (by go_simp); obtain ⟨kc_, fc_, lc_⟩ := keep_later (a := ⟨w.heap.size+1, 0, none⟩) (v := .int .i64 0) hb1 (by go_simp) (by go_simp); obtain ⟨kc_, fc_, lc_⟩ := keep_later (a := ⟨w.heap.size+1, 1, none⟩) (v := .int .i64 0) hb1 (by go_simp) (by go_simp); obtain ⟨kc_, fc_, lc_⟩ := keep_later (a := ⟨w.heap.size+1+1, 0, none⟩) (v := .int .i64 p) hb1 (by go_simp) (by go_simp); obtain ⟨kc_, fc_, lc_⟩ := keep_later (a := ⟨w.heap.size+1+1, 1, none⟩) (v := .int .i64 q) hb1 (by go_simp) (by go_simp); (have kc0 := keep_cell (a := ⟨bp, o + k, none⟩) (v := .int .i64 x) hb1 (by go_simp)); (have kc1 := keep_cell (a := ⟨bp', o' + k * 2, none⟩) (v := .int .i64 v1) hb1 (by go_simp)); (have kc2 := keep_cell (a := ⟨bp', o' + k * 2 + 1, none⟩) (v := .int .i64 v2) hb1 (by go_simp)); (have lc0 := World.block_lt_of_cell? _ _ kc0; (try dsimp only at lc0)); (have lc1 := World.block_lt_of_cell? _ _ kc1; (try dsimp only at lc1)); (first | (refine with_keep hb1 kn0 fn0 ?_; refine with_keep hb1 kn1 fn1 ?_; clear kn0 fn0 kn1 fn1; intro kn1 fn1 ln1 kn0 fn0 ln0) | (refine with_new (wp := wp) (v0 := .int .i64 0) (v1 := .int .i64 0) (t := 82) hb1 ?_; intro kn0 fn0 kn1 fn1 ln0) | (refine with_newd (wp := wr) (v0 := .int .i64 0) (v1 := .int .i64 0) (t := 82) hb1 ?_; intro kn0 fn0 kn1 fn1 ln0; (try simp only [World.size_alloc] at kn0 fn0 kn1 fn1 ln0)) | skip); clear hb1))
      all_goals
        cases t
        · go_wp2
          refine bodyPost_ret (v := .tuple #[.agg #[.int .i64 p, .int .i64 q], .bool false]) (by simp only [results, Try.results98]; go_simp) rfl ⟨p, q, false, rfl, ⟨fun h => (by cases h), fun _ => sumTo_none (H1.out (by trivial)) (by omega)⟩, ?_⟩
          (repeat (first | with_reducible exact Below.refl _ _ | with_reducible assumption | (with_reducible refine below_drewN ?_ _) | (with_reducible refine Below.drew ?_) | (with_reducible refine Below.setCell ?_ (by first | omega | (simp; done) | (simp; omega)) _) | (with_reducible refine Below.alloc ?_ (by first | omega | (simp; done) | (simp; omega)) _) | refine Below.trans ?_ (Below.mono (by with_reducible assumption) (by first | omega | (simp; done) | (simp; omega)))))
        · go_wp2_with fail
          refine (sRatAdd_any p q X Y P Q u HA _).mono ?_
          rintro e w4 ⟨rfl, hb1⟩
          have hz1 := hb1.size; (try simp at hz1); have hB1 : Below w.heap.size w w4 := (by refine Below.trans ?_ (Below.mono hb1 (by first | omega | (simp; done) | (simp; omega))); (repeat (first | with_reducible exact Below.refl _ _ | with_reducible assumption | (with_reducible refine below_drewN ?_ _) | (with_reducible refine Below.drew ?_) | (with_reducible refine Below.setCell ?_ (by first | omega | (simp; done) | (simp; omega)) _) | (with_reducible refine Below.alloc ?_ (by first | omega | (simp; done) | (simp; omega)) _) | refine Below.trans ?_ (Below.mono (by with_reducible assumption) (by first | omega | (simp; done) | (simp; omega)))))); obtain ⟨kc_, fc_, lc_⟩ := keep_later (a := ⟨w.heap.size, 0, none⟩) (v := .slice (some ⟨bp, o, none⟩) 4 c) hb1 (by go_simp) (by go_simp); obtain ⟨kc_, fc_, lc_⟩ := keep_later (a := ⟨w.heap.size, 1, none⟩) (v := .int .i64 b) hb1 (by go_simp) (by go_simp); obtain ⟨kc_, fc_, lc_⟩ := keep_later (a := ⟨w.heap.size, 2, none⟩) (v := .bool s) hb1 (by go_simp) (by go_simp); obtain ⟨kc_, fc_, lc_⟩ := keep_later (a := ⟨w.heap.size+1, 0, none⟩) (v := .int .i64 0) hb1 (by go_simp) (by go_simp); obtain ⟨kc_, fc_, lc_⟩ := keep_later (a := ⟨w.heap.size+1, 1, none⟩) (v := .int .i64 0) hb1 (by go_simp) (by go_simp); obtain ⟨kc_, fc_, lc_⟩ := keep_later (a := ⟨w.heap.size+1+1, 0, none⟩) (v := .int .i64 p) hb1 (by go_simp) (by go_simp); obtain ⟨kc_, fc_, lc_⟩ := keep_later (a := ⟨w.heap.size+1+1, 1, none⟩) (v := .int .i64 q) hb1 (by go_simp) (by go_simp); clear hb1
          cases u
          · go_wp2
            refine bodyPost_ret (v := .tuple #[.agg #[.int .i64 P, .int .i64 Q], .bool false]) (by simp only [results, Try.results98]; go_simp) rfl ⟨P, Q, false, rfl, ⟨fun h => (by cases h), fun _ => sumTo_none (H2.out (by trivial) (by trivial)) (by omega)⟩, ?_⟩
            (repeat (first | with_reducible exact Below.refl _ _ | with_reducible assumption | (with_reducible refine below_drewN ?_ _) | (with_reducible refine Below.drew ?_) | (with_reducible refine Below.setCell ?_ (by first | omega | (simp; done) | (simp; omega)) _) | (with_reducible refine Below.alloc ?_ (by first | omega | (simp; done) | (simp; omega)) _) | refine Below.trans ?_ (Below.mono (by with_reducible assumption) (by first | omega | (simp; done) | (simp; omega)))))
          · go_wp2
            go_roundw
            case rel => exact ⟨k + 1, P, Q, by omega, by go_num, Lib.hid (H3.out (by trivial) (by trivial)), ⟨by go_simp, by go_simp, by go_simp, by go_simp, by go_simp, by go_simp⟩, ⟨by go_simp, by go_simp, by go_simp, by go_simp, (by first | omega | (simp; done) | (simp; omega))⟩, ⟨by go_simp, by go_simp, by go_simp, by go_simp, (by first | omega | (simp; done) | (simp; omega))⟩, by (repeat (first | with_reducible exact Below.refl _ _ | with_reducible assumption | (with_reducible refine below_drewN ?_ _) | (with_reducible refine Below.drew ?_) | (with_reducible refine Below.setCell ?_ (by first | omega | (simp; done) | (simp; omega)) _) | (with_reducible refine Below.alloc ?_ (by first | omega | (simp; done) | (simp; omega)) _) | refine Below.trans ?_ (Below.mono (by with_reducible assumption) (by first | omega | (simp; done) | (simp; omega)))))⟩
            case measure => simp [intOf]; omega
    · obtain rfl : k = 4 := by omega
      go_wp2
      refine bodyPost_ret (v := .tuple #[.agg #[.int .i64 p, .int .i64 q], .bool true]) (by simp only [results, Try.results98]; go_simp) rfl ⟨p, q, true, rfl, ⟨fun _ => HS.out, fun h => (by cases h)⟩, ?_⟩
      (repeat (first | with_reducible exact Below.refl _ _ | with_reducible assumption | (with_reducible refine below_drewN ?_ _) | (with_reducible refine Below.drew ?_) | (with_reducible refine Below.setCell ?_ (by first | omega | (simp; done) | (simp; omega)) _) | (with_reducible refine Below.alloc ?_ (by first | omega | (simp; done) | (simp; omega)) _) | refine Below.trans ?_ (Below.mono (by with_reducible assumption) (by first | omega | (simp; done) | (simp; omega)))))

set_option maxHeartbeats 8000000 in
theorem sLinAt_any {A A' : Option Addr} {n n' c c' : Nat} {xs : List Int} {vs : List (Int × Int)} (b : Int) (s : Bool) {w : World} (h : Ints w A n xs) (h' : Rats w A' n' vs) :
    Calls Try.prog 70 #[.agg #[.slice A n c, .int .i64 b, .bool s], .slice A' n' c'] w fun e w' => e = .returned (.tuple #[.bool (linAt xs b s vs).1, .bool (linAt xs b s vs).2]) ∧ Below w.heap.size w w' := by
  cases hx : linOk xs b
  · rw [linAt_inv (by rw [hx]; rfl)]
    go_enter Try.func70, Try.ntmps70
    go_wp2_with fail
    refine (sLinOk_any (xs := xs) b s (h.later (by (repeat (first | with_reducible exact Below.refl _ _ | with_reducible assumption | (with_reducible refine below_drewN ?_ _) | (with_reducible refine Below.drew ?_) | (with_reducible refine Below.setCell ?_ (by first | omega | (simp; done) | (simp; omega)) _) | (with_reducible refine Below.alloc ?_ (by first | omega | (simp; done) | (simp; omega)) _) | refine Below.trans ?_ (Below.mono (by with_reducible assumption) (by first | omega | (simp; done) | (simp; omega)))))))).mono ?_
    rintro e w1 ⟨rfl, hb1⟩
    have hz1 := hb1.size; (try simp at hz1); have hB1 : Below w.heap.size w w1 := (by refine Below.trans ?_ (Below.mono hb1 (by first | omega | (simp; done) | (simp; omega))); (repeat (first | with_reducible exact Below.refl _ _ | with_reducible assumption | (with_reducible refine below_drewN ?_ _) | (with_reducible refine Below.drew ?_) | (with_reducible refine Below.setCell ?_ (by first | omega | (simp; done) | (simp; omega)) _) | (with_reducible refine Below.alloc ?_ (by first | omega | (simp; done) | (simp; omega)) _) | refine Below.trans ?_ (Below.mono (by with_reducible assumption) (by first | omega | (simp; done) | (simp; omega)))))); (obtain ⟨kc_, fc_, lc_⟩ := keep_later (a := ⟨w.heap.size, 0, none⟩) (v := .slice A n c) hb1 (by go_simp) (by go_simp); obtain ⟨kc_, fc_, lc_⟩ := keep_later (a := ⟨w.heap.size, 1, none⟩) (v := .int .i64 b) hb1 (by go_simp) (by go_simp); obtain ⟨kc_, fc_, lc_⟩ := keep_later (a := ⟨w.heap.size, 2, none⟩) (v := .bool s) hb1 (by go_simp) (by go_simp)); clear hb1
    rw [hx]
    go_wp2
    go_ret2
    exact ⟨rfl, by (repeat (first | with_reducible exact Below.refl _ _ | with_reducible assumption | (with_reducible refine below_drewN ?_ _) | (with_reducible refine Below.drew ?_) | (with_reducible refine Below.setCell ?_ (by first | omega | (simp; done) | (simp; omega)) _) | (with_reducible refine Below.alloc ?_ (by first | omega | (simp; done) | (simp; omega)) _) | refine Below.trans ?_ (Below.mono (by with_reducible assumption) (by first | omega | (simp; done) | (simp; omega)))))⟩
  cases hv : valsOk vs
  · rw [linAt_inv (by rw [hx, hv]; rfl)]
    go_enter Try.func70, Try.ntmps70
    go_wp2_with fail
    refine (sLinOk_any (xs := xs) b s (h.later (by (repeat (first | with_reducible exact Below.refl _ _ | with_reducible assumption | (with_reducible refine below_drewN ?_ _) | (with_reducible refine Below.drew ?_) | (with_reducible refine Below.setCell ?_ (by first | omega | (simp; done) | (simp; omega)) _) | (with_reducible refine Below.alloc ?_ (by first | omega | (simp; done) | (simp; omega)) _) | refine Below.trans ?_ (Below.mono (by with_reducible assumption) (by first | omega | (simp; done) | (simp; omega)))))))).mono ?_
    rintro e w1 ⟨rfl, hb1⟩
    have hz1 := hb1.size; (try simp at hz1); have hB1 : Below w.heap.size w w1 := (by refine Below.trans ?_ (Below.mono hb1 (by first | omega | (simp; done) | (simp; omega))); (repeat (first | with_reducible exact Below.refl _ _ | with_reducible assumption | (with_reducible refine below_drewN ?_ _) | (with_reducible refine Below.drew ?_) | (with_reducible refine Below.setCell ?_ (by first | omega | (simp; done) | (simp; omega)) _) | (with_reducible refine Below.alloc ?_ (by first | omega | (simp; done) | (simp; omega)) _) | refine Below.trans ?_ (Below.mono (by with_reducible assumption) (by first | omega | (simp; done) | (simp; omega)))))); (obtain ⟨kc_, fc_, lc_⟩ := keep_later (a := ⟨w.heap.size, 0, none⟩) (v := .slice A n c) hb1 (by go_simp) (by go_simp); obtain ⟨kc_, fc_, lc_⟩ := keep_later (a := ⟨w.heap.size, 1, none⟩) (v := .int .i64 b) hb1 (by go_simp) (by go_simp); obtain ⟨kc_, fc_, lc_⟩ := keep_later (a := ⟨w.heap.size, 2, none⟩) (v := .bool s) hb1 (by go_simp) (by go_simp)); clear hb1
    rw [hx]
    go_wp2_with fail
    refine (l2Vals_any (vs := vs) (h'.later (by (repeat (first | with_reducible exact Below.refl _ _ | with_reducible assumption | (with_reducible refine below_drewN ?_ _) | (with_reducible refine Below.drew ?_) | (with_reducible refine Below.setCell ?_ (by first | omega | (simp; done) | (simp; omega)) _) | (with_reducible refine Below.alloc ?_ (by first | omega | (simp; done) | (simp; omega)) _) | refine Below.trans ?_ (Below.mono (by with_reducible assumption) (by first | omega | (simp; done) | (simp; omega)))))))).mono ?_
    rintro e w2 ⟨rfl, hb1⟩
    have hz1 := hb1.size; (try simp at hz1); have hB1 : Below w.heap.size w w2 := (by refine Below.trans ?_ (Below.mono hb1 (by first | omega | (simp; done) | (simp; omega))); (repeat (first | with_reducible exact Below.refl _ _ | with_reducible assumption | (with_reducible refine below_drewN ?_ _) | (with_reducible refine Below.drew ?_) | (with_reducible refine Below.setCell ?_ (by first | omega | (simp; done) | (simp; omega)) _) | (with_reducible refine Below.alloc ?_ (by first | omega | (simp; done) | (simp; omega)) _) | refine Below.trans ?_ (Below.mono (by with_reducible assumption) (by first | omega | (simp; done) | (simp; omega)))))); (obtain ⟨kc_, fc_, lc_⟩ := keep_later (a := ⟨w.heap.size, 0, none⟩) (v := .slice A n c) hb1 (by go_simp) (by go_simp); obtain ⟨kc_, fc_, lc_⟩ := keep_later (a := ⟨w.heap.size, 1, none⟩) (v := .int .i64 b) hb1 (by go_simp) (by go_simp); obtain ⟨kc_, fc_, lc_⟩ := keep_later (a := ⟨w.heap.size, 2, none⟩) (v := .bool s) hb1 (by go_simp) (by go_simp)); clear hb1
    rw [hv]
    go_wp2
    go_ret2
    exact ⟨rfl, by (repeat (first | with_reducible exact Below.refl _ _ | with_reducible assumption | (with_reducible refine below_drewN ?_ _) | (with_reducible refine Below.drew ?_) | (with_reducible refine Below.setCell ?_ (by first | omega | (simp; done) | (simp; omega)) _) | (with_reducible refine Below.alloc ?_ (by first | omega | (simp; done) | (simp; omega)) _) | refine Below.trans ?_ (Below.mono (by with_reducible assumption) (by first | omega | (simp; done) | (simp; omega)))))⟩
  obtain ⟨hl4, hbb, hok⟩ := linOk_len hx
  have hn : n = 4 := h.len.symm.trans hl4
  have hn' : n' = 4 := by
    have := hv
    rw [valsOk_eq, Bool.and_eq_true, decide_eq_true_eq] at this
    exact h'.len.symm.trans this.2
  subst hn hn'
  have HX := Lib.hid hx
  have HV := Lib.hid hv
  clear hl4 hbb hok
  obtain ⟨a1, a2, ha⟩ : ∃ a1 a2, linAt xs b s vs = (a1, a2) := ⟨_, _, rfl⟩
  rw [ha]
  have HR := Lib.hid ha
  clear ha
  go_enter Try.func70, Try.ntmps70
  go_wp2_with fail
  refine (sLinOk_any (xs := xs) b s (h.later (by (repeat (first | with_reducible exact Below.refl _ _ | with_reducible assumption | (with_reducible refine below_drewN ?_ _) | (with_reducible refine Below.drew ?_) | (with_reducible refine Below.setCell ?_ (by first | omega | (simp; done) | (simp; omega)) _) | (with_reducible refine Below.alloc ?_ (by first | omega | (simp; done) | (simp; omega)) _) | refine Below.trans ?_ (Below.mono (by with_reducible assumption) (by first | omega | (simp; done) | (simp; omega)))))))).mono ?_
  rintro e w1 ⟨rfl, hb1⟩
  have hz1 := hb1.size; (try simp at hz1); have hB1 : Below w.heap.size w w1 := (by refine Below.trans ?_ (Below.mono hb1 (by first | omega | (simp; done) | (simp; omega))); (repeat (first | with_reducible exact Below.refl _ _ | with_reducible assumption | (with_reducible refine below_drewN ?_ _) | (with_reducible refine Below.drew ?_) | (with_reducible refine Below.setCell ?_ (by first | omega | (simp; done) | (simp; omega)) _) | (with_reducible refine Below.alloc ?_ (by first | omega | (simp; done) | (simp; omega)) _) | refine Below.trans ?_ (Below.mono (by with_reducible assumption) (by first | omega | (simp; done) | (simp; omega)))))); (obtain ⟨kc_, fc_, lc_⟩ := keep_later (a := ⟨w.heap.size, 0, none⟩) (v := .slice A 4 c) hb1 (by go_simp) (by go_simp); obtain ⟨kc_, fc_, lc_⟩ := keep_later (a := ⟨w.heap.size, 1, none⟩) (v := .int .i64 b) hb1 (by go_simp) (by go_simp); obtain ⟨kc_, fc_, lc_⟩ := keep_later (a := ⟨w.heap.size, 2, none⟩) (v := .bool s) hb1 (by go_simp) (by go_simp)); clear hb1
  rw [hx]
  clear hx
  go_wp2_with fail
  refine (l2Vals_any (vs := vs) (h'.later (by (repeat (first | with_reducible exact Below.refl _ _ | with_reducible assumption | (with_reducible refine below_drewN ?_ _) | (with_reducible refine Below.drew ?_) | (with_reducible refine Below.setCell ?_ (by first | omega | (simp; done) | (simp; omega)) _) | (with_reducible refine Below.alloc ?_ (by first | omega | (simp; done) | (simp; omega)) _) | refine Below.trans ?_ (Below.mono (by with_reducible assumption) (by first | omega | (simp; done) | (simp; omega)))))))).mono ?_
  rintro e w2 ⟨rfl, hb1⟩
  have hz1 := hb1.size; (try simp at hz1); have hB1 : Below w.heap.size w w2 := (by refine Below.trans ?_ (Below.mono hb1 (by first | omega | (simp; done) | (simp; omega))); (repeat (first | with_reducible exact Below.refl _ _ | with_reducible assumption | (with_reducible refine below_drewN ?_ _) | (with_reducible refine Below.drew ?_) | (with_reducible refine Below.setCell ?_ (by first | omega | (simp; done) | (simp; omega)) _) | (with_reducible refine Below.alloc ?_ (by first | omega | (simp; done) | (simp; omega)) _) | refine Below.trans ?_ (Below.mono (by with_reducible assumption) (by first | omega | (simp; done) | (simp; omega)))))); (obtain ⟨kc_, fc_, lc_⟩ := keep_later (a := ⟨w.heap.size, 0, none⟩) (v := .slice A 4 c) hb1 (by go_simp) (by go_simp); obtain ⟨kc_, fc_, lc_⟩ := keep_later (a := ⟨w.heap.size, 1, none⟩) (v := .int .i64 b) hb1 (by go_simp) (by go_simp); obtain ⟨kc_, fc_, lc_⟩ := keep_later (a := ⟨w.heap.size, 2, none⟩) (v := .bool s) hb1 (by go_simp) (by go_simp)); clear hb1
  rw [hv]
  clear hv
  go_wp2_with fail
  refine (l2Sum_any b s (h.later (by (repeat (first | with_reducible exact Below.refl _ _ | with_reducible assumption | (with_reducible refine below_drewN ?_ _) | (with_reducible refine Below.drew ?_) | (with_reducible refine Below.setCell ?_ (by first | omega | (simp; done) | (simp; omega)) _) | (with_reducible refine Below.alloc ?_ (by first | omega | (simp; done) | (simp; omega)) _) | refine Below.trans ?_ (Below.mono (by with_reducible assumption) (by first | omega | (simp; done) | (simp; omega))))))) (h'.later (by (repeat (first | with_reducible exact Below.refl _ _ | with_reducible assumption | (with_reducible refine below_drewN ?_ _) | (with_reducible refine Below.drew ?_) | (with_reducible refine Below.setCell ?_ (by first | omega | (simp; done) | (simp; omega)) _) | (with_reducible refine Below.alloc ?_ (by first | omega | (simp; done) | (simp; omega)) _) | refine Below.trans ?_ (Below.mono (by with_reducible assumption) (by first | omega | (simp; done) | (simp; omega)))))))).mono ?_
  rintro e w3 ⟨p, q, t, rfl, ⟨h1, h2⟩, hb1⟩
  have hz1 := hb1.size; (try simp at hz1); have hB1 : Below w.heap.size w w3 := (by refine Below.trans ?_ (Below.mono hb1 (by first | omega | (simp; done) | (simp; omega))); (repeat (first | with_reducible exact Below.refl _ _ | with_reducible assumption | (with_reducible refine below_drewN ?_ _) | (with_reducible refine Below.drew ?_) | (with_reducible refine Below.setCell ?_ (by first | omega | (simp; done) | (simp; omega)) _) | (with_reducible refine Below.alloc ?_ (by first | omega | (simp; done) | (simp; omega)) _) | refine Below.trans ?_ (Below.mono (by with_reducible assumption) (by first | omega | (simp; done) | (simp; omega)))))); obtain ⟨kc_, fc_, lc_⟩ := keep_later (a := ⟨w.heap.size, 0, none⟩) (v := .slice A 4 c) hb1 (by go_simp) (by go_simp); obtain ⟨kc_, fc_, lc_⟩ := keep_later (a := ⟨w.heap.size, 1, none⟩) (v := .int .i64 b) hb1 (by go_simp) (by go_simp); obtain ⟨kc_, fc_, lc_⟩ := keep_later (a := ⟨w.heap.size, 2, none⟩) (v := .bool s) hb1 (by go_simp) (by go_simp); clear hb1
  cases t
  · have he := HR.out.symm.trans (linAt_none (s := s) HX.out HV.out (h2 rfl) (Nat.le_refl 4))
    clear h1 h2
    simp only [Prod.mk.injEq] at he
    obtain ⟨rfl, rfl⟩ := he
    go_wp2
    go_ret2
    exact ⟨rfl, by (repeat (first | with_reducible exact Below.refl _ _ | with_reducible assumption | (with_reducible refine below_drewN ?_ _) | (with_reducible refine Below.drew ?_) | (with_reducible refine Below.setCell ?_ (by first | omega | (simp; done) | (simp; omega)) _) | (with_reducible refine Below.alloc ?_ (by first | omega | (simp; done) | (simp; omega)) _) | refine Below.trans ?_ (Below.mono (by with_reducible assumption) (by first | omega | (simp; done) | (simp; omega)))))⟩
  · have he := HR.out.symm.trans (linAt_some (s := s) HX.out HV.out (h1 rfl))
    clear h1 h2
    simp only [Prod.mk.injEq] at he
    obtain ⟨rfl, rfl⟩ := he
    obtain ⟨t1, ht1⟩ : ∃ t, lessR p q b 1 = t := ⟨_, rfl⟩
    have HT := Lib.hid ht1
    go_wp2_with fail
    refine (sRatLess_any p q b 1 _).mono ?_
    rw [ht1]
    clear ht1
    rintro e w4 ⟨rfl, hb1⟩
    have hz1 := hb1.size; (try simp at hz1); have hB1 : Below w.heap.size w w4 := (by refine Below.trans ?_ (Below.mono hb1 (by first | omega | (simp; done) | (simp; omega))); (repeat (first | with_reducible exact Below.refl _ _ | with_reducible assumption | (with_reducible refine below_drewN ?_ _) | (with_reducible refine Below.drew ?_) | (with_reducible refine Below.setCell ?_ (by first | omega | (simp; done) | (simp; omega)) _) | (with_reducible refine Below.alloc ?_ (by first | omega | (simp; done) | (simp; omega)) _) | refine Below.trans ?_ (Below.mono (by with_reducible assumption) (by first | omega | (simp; done) | (simp; omega)))))); obtain ⟨kc_, fc_, lc_⟩ := keep_later (a := ⟨w.heap.size, 0, none⟩) (v := .slice A 4 c) hb1 (by go_simp) (by go_simp); obtain ⟨kc_, fc_, lc_⟩ := keep_later (a := ⟨w.heap.size, 1, none⟩) (v := .int .i64 b) hb1 (by go_simp) (by go_simp); obtain ⟨kc_, fc_, lc_⟩ := keep_later (a := ⟨w.heap.size, 2, none⟩) (v := .bool s) hb1 (by go_simp) (by go_simp); obtain ⟨kc_, fc_, lc_⟩ := keep_later (a := ⟨w3.heap.size, 0, none⟩) (v := .int .i64 p) hb1 (by go_simp) (by go_simp); obtain ⟨kc_, fc_, lc_⟩ := keep_later (a := ⟨w3.heap.size, 1, none⟩) (v := .int .i64 q) hb1 (by go_simp) (by go_simp); obtain ⟨kc_, fc_, lc_⟩ := keep_later (a := ⟨w3.heap.size+1, 0, none⟩) (v := .int .i64 b) hb1 (by go_simp) (by go_simp); obtain ⟨kc_, fc_, lc_⟩ := keep_later (a := ⟨w3.heap.size+1, 1, none⟩) (v := .int .i64 1) hb1 (by go_simp) (by go_simp); clear hb1
    cases t1
    · cases s
      · go_wp2
        all_goals (go_ret2; exact ⟨by simp only [holdsB, HT.out]; simp [*], by (repeat (first | with_reducible exact Below.refl _ _ | with_reducible assumption | (with_reducible refine below_drewN ?_ _) | (with_reducible refine Below.drew ?_) | (with_reducible refine Below.setCell ?_ (by first | omega | (simp; done) | (simp; omega)) _) | (with_reducible refine Below.alloc ?_ (by first | omega | (simp; done) | (simp; omega)) _) | refine Below.trans ?_ (Below.mono (by with_reducible assumption) (by first | omega | (simp; done) | (simp; omega)))))⟩)
      · go_wp2
        go_ret2
        exact ⟨by simp [holdsB, HT.out], by (repeat (first | with_reducible exact Below.refl _ _ | with_reducible assumption | (with_reducible refine below_drewN ?_ _) | (with_reducible refine Below.drew ?_) | (with_reducible refine Below.setCell ?_ (by first | omega | (simp; done) | (simp; omega)) _) | (with_reducible refine Below.alloc ?_ (by first | omega | (simp; done) | (simp; omega)) _) | refine Below.trans ?_ (Below.mono (by with_reducible assumption) (by first | omega | (simp; done) | (simp; omega)))))⟩
    · go_wp2
      go_ret2
      exact ⟨by simp [holdsB, HT.out], by (repeat (first | with_reducible exact Below.refl _ _ | with_reducible assumption | (with_reducible refine below_drewN ?_ _) | (with_reducible refine Below.drew ?_) | (with_reducible refine Below.setCell ?_ (by first | omega | (simp; done) | (simp; omega)) _) | (with_reducible refine Below.alloc ?_ (by first | omega | (simp; done) | (simp; omega)) _) | refine Below.trans ?_ (Below.mono (by with_reducible assumption) (by first | omega | (simp; done) | (simp; omega)))))⟩
end Go.Proofs.Ytccjbipmlpnhkaa
