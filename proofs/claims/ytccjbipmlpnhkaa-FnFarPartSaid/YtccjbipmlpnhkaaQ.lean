/- Rows of fractions, and constraints at points: contracts. -/
import Derived.Test.YtccjbipmlpnhkaaY
import Derived.Test.YtccjbipmlpnhkaaV
namespace Go.Proofs.Ytccjbipmlpnhkaa
set_option maxRecDepth 100000
open Go.RowKit Go.ChangeShapes Go.WideShapes Go.ChangeAt
set_option linter.unusedSimpArgs false
set_option linter.unusedVariables false

/-- The slice value '.slice A n c' reads as the fractions vs. -/
structure Rats (w : World) (A : Option Addr) (n : Nat) (vs : List (Int × Int)) : Prop where
  len : vs.length = n
  cells : 0 < n → ∃ b o, A = some ⟨b, o, none⟩ ∧ b < w.heap.size ∧ ∀ j, j < n → w.cell? ⟨b, o + j * 2, none⟩ = some (.int .i64 (vs.getD j (0, 0)).1) ∧ w.cell? ⟨b, o + j * 2 + 1, none⟩ = some (.int .i64 (vs.getD j (0, 0)).2)
  rng : ∀ j, J64 (vs.getD j (0, 0)).1 ∧ J64 (vs.getD j (0, 0)).2
  few : n ≤ 9223372036854775807
theorem Rats.kept {w w' : World} {A : Option Addr} {n : Nat} {vs : List (Int × Int)} (h : Rats w A n vs) (hs : w.heap.size ≤ w'.heap.size) (hk : ∀ b o, b < w.heap.size → w'.cell? ⟨b, o, none⟩ = w.cell? ⟨b, o, none⟩) : Rats w' A n vs :=
  ⟨h.len, fun hn => by
    obtain ⟨b, o, e, hb, hc⟩ := h.cells hn
    exact ⟨b, o, e, Nat.lt_of_lt_of_le hb hs, fun j hj => ⟨(hk _ _ hb).trans (hc j hj).1, (hk _ _ hb).trans (hc j hj).2⟩⟩, h.rng, h.few⟩
theorem Rats.later {w w' : World} {A : Option Addr} {n : Nat} {vs : List (Int × Int)} (h : Rats w A n vs) (hb : Below w.heap.size w w') : Rats w' A n vs :=
  h.kept hb.size fun b o hl => hb.cell (p := ⟨b, o, none⟩) hl
theorem Rats.drewN {w : World} {A : Option Addr} {n : Nat} {vs : List (Int × Int)} (h : Rats w A n vs) (m : Nat) : Rats (w.drewN m) A n vs := ⟨h.len, h.cells, h.rng, h.few⟩
theorem Rats.drew {w : World} {A : Option Addr} {n : Nat} {vs : List (Int × Int)} (h : Rats w A n vs) : Rats w.drew A n vs := ⟨h.len, h.cells, h.rng, h.few⟩
theorem Rats.alloc {w : World} {A : Option Addr} {n : Nat} {vs : List (Int × Int)} (h : Rats w A n vs) (o : Obj) : Rats (w.alloc o) A n vs := h.later ((Below.refl _ _).alloc (Nat.le_refl _) o)
theorem Rats.far {w : World} {g o n : Nat} {vs : List (Int × Int)} (h : Rats w (some ⟨g, o, none⟩) n vs) {p : Addr} (hp : p.block ≠ g) (v : Value) : Rats (w.setCell p v) (some ⟨g, o, none⟩) n vs :=
  ⟨h.len, fun hn => by
    obtain ⟨b, o', e, hb, hc⟩ := h.cells hn
    have e' := e
    injection e with e; injection e with e1 e2
    subst e1 e2
    exact ⟨_, _, rfl, by simpa [World.setCell] using hb, fun j hj => ⟨(World.cell?_setCell_other w p ⟨g, o + j * 2, none⟩ v (fun e => hp (by rw [e]))).trans (hc j hj).1, (World.cell?_setCell_other w p ⟨g, o + j * 2 + 1, none⟩ v (fun e => hp (by rw [e]))).trans (hc j hj).2⟩⟩, h.rng, h.few⟩
theorem Rats.aside {w w' : World} {g o n r : Nat} {vs : List (Int × Int)} (h : Rats w (some ⟨g, o, none⟩) n vs) (hg : w.grownBy w' (some r)) (hne : g ≠ r) : Rats w' (some ⟨g, o, none⟩) n vs :=
  ⟨h.len, fun hn => by
    obtain ⟨b, o', e, hb, hc⟩ := h.cells hn
    have e' := e
    injection e with e; injection e with e1 e2
    subst e1 e2
    exact ⟨_, _, rfl, Nat.lt_of_lt_of_le hb hg.size, fun j hj => ⟨(World.cell?_of_block (w := w) (a := ⟨g, o + j * 2, none⟩) (hg.block g hb (fun e => hne (by injection e)))).trans (hc j hj).1, (World.cell?_of_block (w := w) (a := ⟨g, o + j * 2 + 1, none⟩) (hg.block g hb (fun e => hne (by injection e)))).trans (hc j hj).2⟩⟩, h.rng, h.few⟩
/-- The first k fractions are valid. -/
def ROkTo (vs : List (Int × Int)) (k : Nat) : Prop := ∀ j, j < k → ratOk (vs.getD j (0, 0)).1 (vs.getD j (0, 0)).2 = true
theorem ROkTo.zero (vs : List (Int × Int)) : ROkTo vs 0 := fun _ h => absurd h (by omega)
theorem ROkTo.succ {vs : List (Int × Int)} {k : Nat} (h : ROkTo vs k) (h' : ratOk (vs.getD k (0, 0)).1 (vs.getD k (0, 0)).2 = true) : ROkTo vs (k + 1) := fun j hj => by
  by_cases e : j = k
  · rw [e]; exact h'
  · exact h j (by omega)
def allRat (vs : List (Int × Int)) : Bool := vs.all fun v => ratOk v.1 v.2
theorem allRat_no {vs : List (Int × Int)} {k : Nat} (hk : k < vs.length) (h : ratOk (vs.getD k (0, 0)).1 (vs.getD k (0, 0)).2 = false) : allRat vs = false := by
  unfold allRat
  rw [List.all_eq_false]
  refine ⟨vs.getD k (0, 0), ?_, by rw [h]; simp⟩
  rw [List.getD_eq_getElem?_getD, List.getElem?_eq_getElem hk]; exact List.getElem_mem hk
theorem allRat_yes {vs : List (Int × Int)} (h : ROkTo vs vs.length) : allRat vs = true := by
  unfold allRat
  rw [List.all_eq_true]
  intro x hx
  obtain ⟨j, hj, rfl⟩ := List.mem_iff_getElem.1 hx
  have := h j hj
  rwa [List.getD_eq_getElem?_getD, List.getElem?_eq_getElem hj] at this
theorem four_eq (k : Nat) : ((k : Int) == 4) = decide (k = 4) := by
  rw [Bool.eq_iff_iff, beq_iff_eq, decide_eq_true_iff]; omega
theorem valsOk_eq (vs : List (Int × Int)) : valsOk vs = (allRat vs && decide (vs.length = 4)) := rfl
theorem valsOk_at {vs : List (Int × Int)} (h : valsOk vs = true) {k : Nat} (hk : k < 4) : ratOk (vs.getD k (0, 0)).1 (vs.getD k (0, 0)).2 = true := by
  rw [valsOk_eq, Bool.and_eq_true, decide_eq_true_eq] at h
  have h1 := h.1
  unfold allRat at h1
  rw [List.all_eq_true] at h1
  refine h1 _ ?_
  rw [List.getD_eq_getElem?_getD, List.getElem?_eq_getElem (by omega)]; exact List.getElem_mem _

set_option maxHeartbeats 1000000 in
theorem l2Vals_any {A : Option Addr} {n c : Nat} {vs : List (Int × Int)} {w : World} (h : Rats w A n vs) :
    Calls Try.prog 71 #[.slice A n c] w fun e w' => e = .returned (.bool (valsOk vs)) ∧ Below w.heap.size w w' := by
  have hfew := h.few
  go_enter Try.func71, Try.ntmps71
  go_wp2_with fail
  go_loopw [3] (fun i wr => ∃ k : Nat, k ≤ n ∧ i = .int .i64 k ∧ ROkTo vs k ∧ Below w.heap.size w wr) (fun i _ => n - (intOf i).toNat)
  case atStart => exact ⟨0, by omega, rfl, ROkTo.zero vs, by (repeat (first | with_reducible exact Below.refl _ _ | with_reducible assumption | (with_reducible refine below_drewN ?_ _) | (with_reducible refine Below.drew ?_) | (with_reducible refine Below.setCell ?_ (by first | omega | (simp; done) | (simp; omega)) _) | (with_reducible refine Below.alloc ?_ (by first | omega | (simp; done) | (simp; omega)) _) | refine Below.trans ?_ (Below.mono (by with_reducible assumption) (by first | omega | (simp; done) | (simp; omega)))))⟩
  case round =>
    obtain ⟨k, hk, rfl, hok, hB⟩ := hrel
    by_cases hlt : k < n
    · obtain ⟨p, o, rfl, hp, hc⟩ := (h.later hB).cells (by omega)
      obtain ⟨hc1, hc2⟩ := hc k hlt
      clear hc
      have hbad := Lib.hid (@allRat_no vs k (by rw [h.len]; exact hlt))
      have hyes := Lib.hid (@ROkTo.succ vs k hok)
      generalize (vs.getD k (0, 0)).1 = x at *
      generalize (vs.getD k (0, 0)).2 = y at *
      cases hx : ratOk x y
      · go_wp2_with (first | (go_at_call 100; refine (sRatOk_any _ _ _).mono ?_; rintro e w1 ⟨rfl, hb1⟩; have hB1 := hB.trans (hb1.mono hB.size)))
        go_ret
        exact ⟨by rw [valsOk_eq, hbad.out hx]; rfl, by (repeat (first | with_reducible exact Below.refl _ _ | with_reducible assumption | (with_reducible refine below_drewN ?_ _) | (with_reducible refine Below.drew ?_) | (with_reducible refine Below.setCell ?_ (by first | omega | (simp; done) | (simp; omega)) _) | (with_reducible refine Below.alloc ?_ (by first | omega | (simp; done) | (simp; omega)) _) | refine Below.trans ?_ (Below.mono (by with_reducible assumption) (by first | omega | (simp; done) | (simp; omega)))))⟩
      · go_wp2_with (first | (go_at_call 100; refine (sRatOk_any _ _ _).mono ?_; rintro e w1 ⟨rfl, hb1⟩; have hB1 := hB.trans (hb1.mono hB.size)))
        go_roundw
        case rel => exact ⟨k + 1, by omega, by go_num, hyes.out hx, by (repeat (first | with_reducible exact Below.refl _ _ | with_reducible assumption | (with_reducible refine below_drewN ?_ _) | (with_reducible refine Below.drew ?_) | (with_reducible refine Below.setCell ?_ (by first | omega | (simp; done) | (simp; omega)) _) | (with_reducible refine Below.alloc ?_ (by first | omega | (simp; done) | (simp; omega)) _) | refine Below.trans ?_ (Below.mono (by with_reducible assumption) (by first | omega | (simp; done) | (simp; omega)))))⟩
        case measure => simp [intOf]; omega
    · obtain rfl : k = n := by omega
      have hall := allRat_yes (by rw [h.len]; exact hok)
      have hl := h.len
      go_wp2
      go_ret
      exact ⟨by rw [valsOk_eq, hall, hl, Bool.true_and, four_eq]; rfl, hB⟩
theorem isAssignment1_any (x y : Int) (w : World) :
    Calls Try.prog 90 #[.agg #[.int .i64 x, .int .i64 y]] w fun e w' => e = .returned (.bool (!ratOk x y)) ∧ Below w.heap.size w w' := by
  go_enter Try.func90, Try.ntmps90
  go_wp2_with fail
  refine (iRatOk_any x y _).mono ?_
  rintro e w1 ⟨rfl, hb1⟩
  have hz1 := hb1.size; (try simp at hz1); have hB1 : Below w.heap.size w w1 := (by refine Below.trans ?_ (Below.mono hb1 (by first | omega | (simp; done) | (simp; omega))); (repeat (first | with_reducible exact Below.refl _ _ | with_reducible assumption | (with_reducible refine below_drewN ?_ _) | (with_reducible refine Below.drew ?_) | (with_reducible refine Below.setCell ?_ (by first | omega | (simp; done) | (simp; omega)) _) | (with_reducible refine Below.alloc ?_ (by first | omega | (simp; done) | (simp; omega)) _) | refine Below.trans ?_ (Below.mono (by with_reducible assumption) (by first | omega | (simp; done) | (simp; omega)))))); skip; clear hb1
  go_wp2
  go_ret
  exact ⟨rfl, by (repeat (first | with_reducible exact Below.refl _ _ | with_reducible assumption | (with_reducible refine below_drewN ?_ _) | (with_reducible refine Below.drew ?_) | (with_reducible refine Below.setCell ?_ (by first | omega | (simp; done) | (simp; omega)) _) | (with_reducible refine Below.alloc ?_ (by first | omega | (simp; done) | (simp; omega)) _) | refine Below.trans ?_ (Below.mono (by with_reducible assumption) (by first | omega | (simp; done) | (simp; omega)))))⟩
set_option maxHeartbeats 1000000 in
theorem indexFuncRat_any {A : Option Addr} {n c : Nat} {vs : List (Int × Int)} {w : World} (h : Rats w A n vs) :
    Calls Try.prog 113 #[.slice A n c, .func (.func 90) #[] #[]] w fun e w' => ∃ r : Int, e = .returned (.int .i64 r) ∧ decide (0 ≤ r) = !allRat vs ∧ Below w.heap.size w w' := by
  have hfew := h.few
  go_enter Try.func113, Try.ntmps113
  go_wp2_with fail
  go_loopw [8] (fun i wr => ∃ k : Nat, k ≤ n ∧ i = .int .i64 k ∧ ROkTo vs k ∧ Below w.heap.size w wr) (fun i _ => n - (intOf i).toNat)
  case atStart => exact ⟨0, by omega, rfl, ROkTo.zero vs, by (repeat (first | with_reducible exact Below.refl _ _ | with_reducible assumption | (with_reducible refine below_drewN ?_ _) | (with_reducible refine Below.drew ?_) | (with_reducible refine Below.setCell ?_ (by first | omega | (simp; done) | (simp; omega)) _) | (with_reducible refine Below.alloc ?_ (by first | omega | (simp; done) | (simp; omega)) _) | refine Below.trans ?_ (Below.mono (by with_reducible assumption) (by first | omega | (simp; done) | (simp; omega)))))⟩
  case round =>
    obtain ⟨k, hk, rfl, hok, hB⟩ := hrel
    by_cases hlt : k < n
    · obtain ⟨p, o, rfl, hp, hc⟩ := (h.later hB).cells (by omega)
      obtain ⟨hc1, hc2⟩ := hc k hlt
      clear hc
      have hbad := Lib.hid (@allRat_no vs k (by rw [h.len]; exact hlt))
      have hyes := Lib.hid (@ROkTo.succ vs k hok)
      generalize (vs.getD k (0, 0)).1 = x at *
      generalize (vs.getD k (0, 0)).2 = y at *
      cases hx : ratOk x y
      · go_wp2_with (first | (go_at_call 90; refine (isAssignment1_any _ _ _).mono ?_; rintro e w1 ⟨rfl, hb1⟩; have hB1 := hB.trans (hb1.mono hB.size)))
        go_ret
        exact ⟨(k : Int), rfl, by rw [hbad.out hx]; simp, by (repeat (first | with_reducible exact Below.refl _ _ | with_reducible assumption | (with_reducible refine below_drewN ?_ _) | (with_reducible refine Below.drew ?_) | (with_reducible refine Below.setCell ?_ (by first | omega | (simp; done) | (simp; omega)) _) | (with_reducible refine Below.alloc ?_ (by first | omega | (simp; done) | (simp; omega)) _) | refine Below.trans ?_ (Below.mono (by with_reducible assumption) (by first | omega | (simp; done) | (simp; omega)))))⟩
      · go_wp2_with (first | (go_at_call 90; refine (isAssignment1_any _ _ _).mono ?_; rintro e w1 ⟨rfl, hb1⟩; have hB1 := hB.trans (hb1.mono hB.size)))
        go_roundw
        case rel => exact ⟨k + 1, by omega, by go_num, hyes.out hx, by (repeat (first | with_reducible exact Below.refl _ _ | with_reducible assumption | (with_reducible refine below_drewN ?_ _) | (with_reducible refine Below.drew ?_) | (with_reducible refine Below.setCell ?_ (by first | omega | (simp; done) | (simp; omega)) _) | (with_reducible refine Below.alloc ?_ (by first | omega | (simp; done) | (simp; omega)) _) | refine Below.trans ?_ (Below.mono (by with_reducible assumption) (by first | omega | (simp; done) | (simp; omega)))))⟩
        case measure => simp [intOf]; omega
    · obtain rfl : k = n := by omega
      go_wp2
      go_ret
      exact ⟨-1, rfl, by rw [allRat_yes (by rw [h.len]; exact hok)]; rfl, hB⟩
set_option maxHeartbeats 2000000 in
theorem containsFuncRat_any {A : Option Addr} {n c : Nat} {vs : List (Int × Int)} {w : World} (h : Rats w A n vs) :
    Calls Try.prog 89 #[.slice A n c, .func (.func 90) #[] #[]] w fun e w' => e = .returned (.bool (!allRat vs)) ∧ Below w.heap.size w w' := by
  go_enter Try.func89, Try.ntmps89
  go_wp2_with fail
  refine (indexFuncRat_any h).mono ?_
  rintro e w' ⟨r, rfl, hr, hb1⟩
  have HR := Lib.hid hr
  clear hr
  go_wp2
  go_ret
  exact ⟨by rw [← HR.out]; rfl, hb1⟩
set_option maxHeartbeats 2000000 in
theorem isAssignment_any {A : Option Addr} {n c : Nat} {vs : List (Int × Int)} {w : World} (h : Rats w A n vs) :
    Calls Try.prog 58 #[.slice A n c] w fun e w' => e = .returned (.bool (valsOk vs)) ∧ Below w.heap.size w w' := by
  have hl := h.len
  have hfew := h.few
  by_cases h4 : n = 4
  · subst h4
    have hv : valsOk vs = allRat vs := by rw [valsOk_eq, hl]; simp
    rw [hv]
    go_enter Try.func58, Try.ntmps58
    go_wp2_with fail
    refine (containsFuncRat_any h).mono ?_
    rintro e w1 ⟨rfl, hb1⟩
    go_wp2
    go_ret
    exact ⟨by simp, hb1⟩
  · have h5 : ((n : Int) == 4) = false := by simp; omega
    have hv : valsOk vs = false := by rw [valsOk_eq, hl]; simp [h4]
    rw [hv]
    go_enter Try.func58, Try.ntmps58
    go_wp2
    go_ret
    exact ⟨by simp, Below.refl _ _⟩
/-- a sum with one product more, as a call gives it -/
def plusV (s1 s2 c v1 v2 : Int) : Int × Int × Bool := match plusR (s1, s2) c (v1, v2) with
  | some (p, q) => (p, q, true)
  | none => (0, 0, false)
theorem plusV_no {s1 s2 c v1 v2 x y : Int} (h : mulR c 1 v1 v2 = (x, y, false)) : plusV s1 s2 c v1 v2 = (0, 0, false) := by
  simp [plusV, plusR, h]
theorem plusV_yes {s1 s2 c v1 v2 x y : Int} (h : mulR c 1 v1 v2 = (x, y, true)) : plusV s1 s2 c v1 v2 = addR s1 s2 x y := by
  obtain ⟨p, q, t, ha⟩ : ∃ p q t, addR s1 s2 x y = (p, q, t) := ⟨_, _, _, rfl⟩
  cases t
  · obtain ⟨rfl, rfl⟩ := addR_none ha
    simp [plusV, plusR, h, ha]
  · simp [plusV, plusR, h, ha]

theorem whole_any (n : Int) (w : World) :
    Calls Try.prog 55 #[.int .i64 n] w fun e w' => e = .returned (.agg #[.int .i64 n, .int .i64 1]) ∧ Below w.heap.size w w' := by
  go_enter Try.func55, Try.ntmps55
  go_wp2
  refine bodyPost_ret (v := .agg #[.int .i64 n, .int .i64 1]) (by simp only [results, Try.results55]; go_simp) rfl ⟨rfl, ?_⟩
  (repeat (first | with_reducible exact Below.refl _ _ | with_reducible assumption | (with_reducible refine below_drewN ?_ _) | (with_reducible refine Below.drew ?_) | (with_reducible refine Below.setCell ?_ (by first | omega | (simp; done) | (simp; omega)) _) | (with_reducible refine Below.alloc ?_ (by first | omega | (simp; done) | (simp; omega)) _) | refine Below.trans ?_ (Below.mono (by with_reducible assumption) (by first | omega | (simp; done) | (simp; omega)))))
set_option maxHeartbeats 2000000 in
theorem plus_any (s1 s2 c v1 v2 p q : Int) (t : Bool) (H : Hid (plusV s1 s2 c v1 v2 = (p, q, t))) (w : World) :
    Calls Try.prog 59 #[.agg #[.int .i64 s1, .int .i64 s2], .int .i64 c, .agg #[.int .i64 v1, .int .i64 v2]] w fun e w' => e = .returned (.tuple #[.agg #[.int .i64 p, .int .i64 q], .bool t]) ∧ Below w.heap.size w w' := by
  obtain ⟨x, y, tm, hm⟩ : ∃ x y t, mulR c 1 v1 v2 = (x, y, t) := ⟨_, _, _, rfl⟩
  have HM := Lib.hid hm
  clear hm
  obtain ⟨w1, hw1⟩ : ∃ x : World, x = w := ⟨w, rfl⟩
  clear hw1
  go_enter Try.func59, Try.ntmps59
  go_upto_region 1 with fail
  go_cut [8, 9] (fun s8 s9 wx => ∃ g : Nat, s8 = .pointer (some ⟨g, 0, none⟩) ∧ s9 = .bool tm ∧ Lv wx g x y ∧ Lv wx w.heap.size s1 s2 ∧ Lv wx (w.heap.size + 1 + 1) 0 0 ∧ Below w.heap.size w wx)
  case first =>
    go_region_held3 (fun w' => w'.cell? ⟨w.heap.size + 1, 0, none⟩ = some (.int .i64 v1) ∧ w'.cell? ⟨w.heap.size + 1, 1, none⟩ = some (.int .i64 v2)) (simp [go_sem, World.cell?_alloc_past, *])
      (first
        | (go_at_call 55; rename World => wp; refine (whole_any _ _).mono ?_; rintro e w1 ⟨rfl, hb1⟩; have hz1 := hb1.size; (try simp at hz1); have hB1 : Below w.heap.size w w1 := (by refine Below.trans ?_ (Below.mono hb1 (by first | omega | (simp; done) | (simp; omega))); (repeat (first | with_reducible exact Below.refl _ _ | with_reducible assumption | (with_reducible refine below_drewN ?_ _) | (with_reducible refine Below.drew ?_) | (with_reducible refine Below.setCell ?_ (by first | omega | (simp; done) | (simp; omega)) _) | (with_reducible refine Below.alloc ?_ (by first | omega | (simp; done) | (simp; omega)) _) | refine Below.trans ?_ (Below.mono (by with_reducible assumption) (by first | omega | (simp; done) | (simp; omega)))))); obtain ⟨kc_, fc_, lc_⟩ := keep_later (a := ⟨w.heap.size, 0, none⟩) (v := .int .i64 s1) hb1 (by go_simp) (by go_simp); obtain ⟨kc_, fc_, lc_⟩ := keep_later (a := ⟨w.heap.size, 1, none⟩) (v := .int .i64 s2) hb1 (by go_simp) (by go_simp); obtain ⟨kc_, fc_, lc_⟩ := keep_later (a := ⟨w.heap.size+1, 0, none⟩) (v := .int .i64 v1) hb1 (by go_simp) (by go_simp); obtain ⟨kc_, fc_, lc_⟩ := keep_later (a := ⟨w.heap.size+1, 1, none⟩) (v := .int .i64 v2) hb1 (by go_simp) (by go_simp); obtain ⟨kc_, fc_, lc_⟩ := keep_later (a := ⟨w.heap.size+1+1, 0, none⟩) (v := .int .i64 0) hb1 (by go_simp) (by go_simp); obtain ⟨kc_, fc_, lc_⟩ := keep_later (a := ⟨w.heap.size+1+1, 1, none⟩) (v := .int .i64 0) hb1 (by go_simp) (by go_simp); (first | (refine with_keep hb1 kn0 fn0 ?_; refine with_keep hb1 kn1 fn1 ?_; clear kn0 fn0 kn1 fn1; intro kn1 fn1 ln1 kn0 fn0 ln0) | (refine with_new (wp := wp) (v0 := .int .i64 0) (v1 := .int .i64 0) (t := 82) hb1 ?_; intro kn0 fn0 kn1 fn1 ln0) | (refine with_newd (wp := (((w.alloc (.cells #[.int .i64 s1, .int .i64 s2] 82)).alloc (.cells #[.int .i64 v1, .int .i64 v2] 82)).alloc (.cells #[.int .i64 0, .int .i64 0] 82))) (v0 := .int .i64 0) (v1 := .int .i64 0) (t := 82) hb1 ?_; intro kn0 fn0 kn1 fn1 ln0; (try simp only [World.size_alloc] at kn0 fn0 kn1 fn1 ln0)) | skip); clear hb1)
        | (go_at_call 92; rename World => wp; refine (iRatMul_any c 1 v1 v2 x y tm HM _).mono ?_; rintro e w1 ⟨rfl, hb1⟩; have hz1 := hb1.size; (try simp at hz1); have hB1 : Below w.heap.size w w1 := (by refine Below.trans ?_ (Below.mono hb1 (by first | omega | (simp; done) | (simp; omega))); (repeat (first | with_reducible exact Below.refl _ _ | with_reducible assumption | (with_reducible refine below_drewN ?_ _) | (with_reducible refine Below.drew ?_) | (with_reducible refine Below.setCell ?_ (by first | omega | (simp; done) | (simp; omega)) _) | (with_reducible refine Below.alloc ?_ (by first | omega | (simp; done) | (simp; omega)) _) | refine Below.trans ?_ (Below.mono (by with_reducible assumption) (by first | omega | (simp; done) | (simp; omega)))))); obtain ⟨kc_, fc_, lc_⟩ := keep_later (a := ⟨w.heap.size, 0, none⟩) (v := .int .i64 s1) hb1 (by go_simp) (by go_simp); obtain ⟨kc_, fc_, lc_⟩ := keep_later (a := ⟨w.heap.size, 1, none⟩) (v := .int .i64 s2) hb1 (by go_simp) (by go_simp); obtain ⟨kc_, fc_, lc_⟩ := keep_later (a := ⟨w.heap.size+1, 0, none⟩) (v := .int .i64 v1) hb1 (by go_simp) (by go_simp); obtain ⟨kc_, fc_, lc_⟩ := keep_later (a := ⟨w.heap.size+1, 1, none⟩) (v := .int .i64 v2) hb1 (by go_simp) (by go_simp); obtain ⟨kc_, fc_, lc_⟩ := keep_later (a := ⟨w.heap.size+1+1, 0, none⟩) (v := .int .i64 0) hb1 (by go_simp) (by go_simp); obtain ⟨kc_, fc_, lc_⟩ := keep_later (a := ⟨w.heap.size+1+1, 1, none⟩) (v := .int .i64 0) hb1 (by go_simp) (by go_simp); (first | (refine with_keep hb1 kn0 fn0 ?_; refine with_keep hb1 kn1 fn1 ?_; clear kn0 fn0 kn1 fn1; intro kn1 fn1 ln1 kn0 fn0 ln0) | (refine with_new (wp := wp) (v0 := .int .i64 0) (v1 := .int .i64 0) (t := 82) hb1 ?_; intro kn0 fn0 kn1 fn1 ln0) | (refine with_newd (wp := (((w.alloc (.cells #[.int .i64 s1, .int .i64 s2] 82)).alloc (.cells #[.int .i64 v1, .int .i64 v2] 82)).alloc (.cells #[.int .i64 0, .int .i64 0] 82))) (v0 := .int .i64 0) (v1 := .int .i64 0) (t := 82) hb1 ?_; intro kn0 fn0 kn1 fn1 ln0; (try simp only [World.size_alloc] at kn0 fn0 kn1 fn1 ln0)) | skip); clear hb1))
    all_goals (go_wp2_with fail; go_meet; exact ⟨_, rfl, rfl, ⟨by go_simp, by go_simp, by go_simp, by go_simp, (by first | omega | (simp; done) | (simp; omega))⟩, ⟨by go_simp, by go_simp, by go_simp, by go_simp, (by first | omega | (simp; done) | (simp; omega))⟩, ⟨by go_simp, by go_simp, by go_simp, by go_simp, (by first | omega | (simp; done) | (simp; omega))⟩, by (repeat (first | with_reducible exact Below.refl _ _ | with_reducible assumption | (with_reducible refine below_drewN ?_ _) | (with_reducible refine Below.drew ?_) | (with_reducible refine Below.setCell ?_ (by first | omega | (simp; done) | (simp; omega)) _) | (with_reducible refine Below.alloc ?_ (by first | omega | (simp; done) | (simp; omega)) _) | refine Below.trans ?_ (Below.mono (by with_reducible assumption) (by first | omega | (simp; done) | (simp; omega)))))⟩)
  case rest =>
    obtain ⟨g, rfl, rfl, ⟨k1, k2, k3, k4, k5⟩, ⟨k6, k7, k8, k9, k10⟩, ⟨k11, k12, k13, k14, k15⟩, hBc⟩ := hcut
    have hzc := hBc.size
    cases tm
    · have he := (plusV_no (s1 := s1) (s2 := s2) HM.out).symm.trans H.out
      simp only [Prod.mk.injEq] at he
      obtain ⟨rfl, rfl, rfl⟩ := he
      go_wp2
      refine bodyPost_ret (v := .tuple #[.agg #[.int .i64 0, .int .i64 0], .bool false]) (by simp only [results, Try.results59]; go_simp) rfl ⟨rfl, ?_⟩
      (repeat (first | with_reducible exact Below.refl _ _ | with_reducible assumption | (with_reducible refine below_drewN ?_ _) | (with_reducible refine Below.drew ?_) | (with_reducible refine Below.setCell ?_ (by first | omega | (simp; done) | (simp; omega)) _) | (with_reducible refine Below.alloc ?_ (by first | omega | (simp; done) | (simp; omega)) _) | refine Below.trans ?_ (Below.mono (by with_reducible assumption) (by first | omega | (simp; done) | (simp; omega)))))
    · have HA := Lib.hid ((plusV_yes (s1 := s1) (s2 := s2) HM.out).symm.trans H.out)
      go_wp2_with fail
      refine (iRatAdd_any s1 s2 x y p q t HA _).mono ?_
      rintro e w3 ⟨rfl, hb1⟩
      have hz1 := hb1.size; (try simp at hz1); have hB1 : Below w.heap.size w w3 := (by refine Below.trans ?_ (Below.mono hb1 (by first | omega | (simp; done) | (simp; omega))); (repeat (first | with_reducible exact Below.refl _ _ | with_reducible assumption | (with_reducible refine below_drewN ?_ _) | (with_reducible refine Below.drew ?_) | (with_reducible refine Below.setCell ?_ (by first | omega | (simp; done) | (simp; omega)) _) | (with_reducible refine Below.alloc ?_ (by first | omega | (simp; done) | (simp; omega)) _) | refine Below.trans ?_ (Below.mono (by with_reducible assumption) (by first | omega | (simp; done) | (simp; omega)))))); obtain ⟨kc_, fc_, lc_⟩ := keep_later (a := ⟨w.heap.size+1+1, 0, none⟩) (v := .int .i64 0) hb1 (by go_simp) (by go_simp); obtain ⟨kc_, fc_, lc_⟩ := keep_later (a := ⟨w.heap.size+1+1, 1, none⟩) (v := .int .i64 0) hb1 (by go_simp) (by go_simp); clear hb1
      go_wp2
      refine bodyPost_ret (v := .tuple #[.agg #[.int .i64 p, .int .i64 q], .bool t]) (by simp only [results, Try.results59]; go_simp) rfl ⟨rfl, ?_⟩
      (repeat (first | with_reducible exact Below.refl _ _ | with_reducible assumption | (with_reducible refine below_drewN ?_ _) | (with_reducible refine Below.drew ?_) | (with_reducible refine Below.setCell ?_ (by first | omega | (simp; done) | (simp; omega)) _) | (with_reducible refine Below.alloc ?_ (by first | omega | (simp; done) | (simp; omega)) _) | refine Below.trans ?_ (Below.mono (by with_reducible assumption) (by first | omega | (simp; done) | (simp; omega)))))
theorem lessIs (a b c d : Int) (t : Bool) (h : lessR a b c d = t) (w : World) :
    Calls Try.prog 86 #[.agg #[.int .i64 a, .int .i64 b], .agg #[.int .i64 c, .int .i64 d]] w fun e w' => e = .returned (.bool t) ∧ Below w.heap.size w w' := by
  subst h; exact iRatLess_any a b c d w
set_option maxHeartbeats 1000000 in
theorem below_any (p q b : Int) (s : Bool) (w : World) :
    Calls Try.prog 60 #[.agg #[.int .i64 p, .int .i64 q], .int .i64 b, .bool s] w fun e w' => e = .returned (.bool (belowB p q b s)) ∧ Below w.heap.size w w' := by
  obtain ⟨t1, h1⟩ : ∃ t, lessR p q b 1 = t := ⟨_, rfl⟩
  obtain ⟨t2, h2⟩ : ∃ t, lessR b 1 p q = t := ⟨_, rfl⟩
  have c1 := Lib.hid (fun W => lessIs p q b 1 t1 h1 W)
  have c2 := Lib.hid (fun W => lessIs b 1 p q t2 h2 W)
  have c3 := Lib.hid (fun W => whole_any b W)
  unfold belowB
  rw [h1, h2]
  clear h1 h2
  cases s
  · go_enter Try.func60, Try.ntmps60
    go_wp2_with fail
    refine wp_region_grown (by kernel_rfl) (by kernel_rfl) ?_
    (refine quiet_with (a := ⟨w.heap.size, 0, none⟩) (v := .int .i64 p) (by go_simp) ?_; intro g; refine quiet_with (a := ⟨w.heap.size, 1, none⟩) (v := .int .i64 q) (by go_simp) ?_; intro g)
    repeat (go_big_quiet_step ((first | (go_at_call 55; (with_reducible exact grown_of (c3.out _))) | (go_at_call 86; (with_reducible exact grown_of (c2.out _))))))
    refine wpQuiet_nil ?_
    rintro w1 ⟨⟨_, hb1⟩, rfl⟩
    go_wp2
    go_ret
    exact ⟨by simp, by (repeat (first | with_reducible exact Below.refl _ _ | with_reducible assumption | (with_reducible refine below_drewN ?_ _) | (with_reducible refine Below.drew ?_) | (with_reducible refine Below.setCell ?_ (by first | omega | (simp; done) | (simp; omega)) _) | (with_reducible refine Below.alloc ?_ (by first | omega | (simp; done) | (simp; omega)) _) | refine Below.trans ?_ (Below.mono (by with_reducible assumption) (by first | omega | (simp; done) | (simp; omega)))))⟩
  · go_enter Try.func60, Try.ntmps60
    go_wp2_with fail
    refine wp_region_grown (by kernel_rfl) (by kernel_rfl) ?_
    (refine quiet_with (a := ⟨w.heap.size, 0, none⟩) (v := .int .i64 p) (by go_simp) ?_; intro g; refine quiet_with (a := ⟨w.heap.size, 1, none⟩) (v := .int .i64 q) (by go_simp) ?_; intro g)
    repeat (go_big_quiet_step ((first | (go_at_call 55; (with_reducible exact grown_of (c3.out _))) | (go_at_call 86; (with_reducible exact grown_of (c1.out _))))))
    refine wpQuiet_nil ?_
    rintro w1 ⟨⟨_, hb1⟩, rfl⟩
    go_wp2
    go_ret
    exact ⟨by simp, by (repeat (first | with_reducible exact Below.refl _ _ | with_reducible assumption | (with_reducible refine below_drewN ?_ _) | (with_reducible refine Below.drew ?_) | (with_reducible refine Below.setCell ?_ (by first | omega | (simp; done) | (simp; omega)) _) | (with_reducible refine Below.alloc ?_ (by first | omega | (simp; done) | (simp; omega)) _) | refine Below.trans ?_ (Below.mono (by with_reducible assumption) (by first | omega | (simp; done) | (simp; omega)))))⟩
end Go.Proofs.Ytccjbipmlpnhkaa
