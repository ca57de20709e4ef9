/- Contracts of the functions on lists of numbers and on constraints that only read. -/
import Derived.Test.YtccjbipmlpnhkaaG
import Derived.ProofKit
import Derived.Lib.SmallJoins
namespace Go.Proofs.Ytccjbipmlpnhkaa
set_option maxRecDepth 100000
open Go.RowKit Go.ChangeShapes Go.WideShapes Go.ChangeAt
set_option linter.unusedSimpArgs false
set_option linter.unusedVariables false

/-- a number of 64 bits -/
def J64 (x : Int) : Prop := -9223372036854775808 ≤ x ∧ x ≤ 9223372036854775807

/-- The slice value '.slice A n c' reads as the numbers xs. -/
structure Ints (w : World) (A : Option Addr) (n : Nat) (xs : List Int) : Prop where
  len : xs.length = n
  cells : 0 < n → ∃ b o, A = some ⟨b, o, none⟩ ∧ b < w.heap.size ∧ ∀ j, j < n → w.cell? ⟨b, o + j, none⟩ = some (.int .i64 (xs.getD j 0))
  rng : ∀ j, J64 (xs.getD j 0)
  few : n ≤ 9223372036854775807
theorem Ints.kept {w w' : World} {A : Option Addr} {n : Nat} {xs : List Int} (h : Ints w A n xs) (hs : w.heap.size ≤ w'.heap.size) (hk : ∀ b o, b < w.heap.size → w'.cell? ⟨b, o, none⟩ = w.cell? ⟨b, o, none⟩) : Ints w' A n xs :=
  ⟨h.len, fun hn => by
    obtain ⟨b, o, e, hb, hc⟩ := h.cells hn
    exact ⟨b, o, e, Nat.lt_of_lt_of_le hb hs, fun j hj => (hk _ _ hb).trans (hc j hj)⟩, h.rng, h.few⟩
theorem Ints.later {w w' : World} {A : Option Addr} {n : Nat} {xs : List Int} (h : Ints w A n xs) (hb : Below w.heap.size w w') : Ints w' A n xs :=
  h.kept hb.size fun b o hl => hb.cell (p := ⟨b, o, none⟩) hl
theorem Ints.drewN {w : World} {A : Option Addr} {n : Nat} {xs : List Int} (h : Ints w A n xs) (m : Nat) : Ints (w.drewN m) A n xs := ⟨h.len, h.cells, h.rng, h.few⟩
theorem Ints.alloc {w : World} {A : Option Addr} {n : Nat} {xs : List Int} (h : Ints w A n xs) (o : Obj) : Ints (w.alloc o) A n xs := h.later ((Below.refl _ _).alloc (Nat.le_refl _) o)

theorem Ints.drew {w : World} {A : Option Addr} {n : Nat} {xs : List Int} (h : Ints w A n xs) : Ints w.drew A n xs := ⟨h.len, h.cells, h.rng, h.few⟩
theorem Ints.far {w : World} {g o n : Nat} {xs : List Int} (h : Ints w (some ⟨g, o, none⟩) n xs) {p : Addr} (hp : p.block ≠ g) (v : Value) : Ints (w.setCell p v) (some ⟨g, o, none⟩) n xs :=
  ⟨h.len, fun hn => by
    obtain ⟨b, o', e, hb, hc⟩ := h.cells hn
    have e' := e
    injection e with e; injection e with e1 e2
    subst e1 e2
    exact ⟨_, _, rfl, by simpa [World.setCell] using hb, fun j hj => (World.cell?_setCell_other w p ⟨g, o + j, none⟩ v (fun e => hp (by rw [e]))).trans (hc j hj)⟩, h.rng, h.few⟩

/-- Block g may be written. -/
structure Free (w : World) (g : Nat) : Prop where
  lt : g < w.heap.size
  free : ∀ j, w.frozen? ⟨g, j, none⟩ = false
theorem Free.later {w w' : World} {g : Nat} (h : Free w g) (hb : Below w.heap.size w w') : Free w' g := ⟨Nat.lt_of_lt_of_le h.lt hb.size, fun j => (hb.frozen (p := ⟨g, j, none⟩) h.lt).trans (h.free j)⟩
theorem Free.set {w : World} {g : Nat} (h : Free w g) (p : Addr) (v : Value) : Free (w.setCell p v) g := ⟨by simpa [World.setCell] using h.lt, fun j => by rw [World.frozen?_setCell]; exact h.free j⟩
theorem Free.alloc {w : World} {g : Nat} (h : Free w g) (o : Obj) : Free (w.alloc o) g := h.later ((Below.refl _ _).alloc (Nat.le_refl _) o)
theorem Free.drewN {w : World} {g : Nat} (h : Free w g) (m : Nat) : Free (w.drewN m) g := ⟨h.lt, h.free⟩
theorem Free.drew {w : World} {g : Nat} (h : Free w g) : Free w.drew g := ⟨h.lt, h.free⟩
theorem Free.aside {w w' : World} {g r : Nat} (h : Free w g) (hg : w.grownBy w' (some r)) (hne : g ≠ r) : Free w' g :=
  ⟨Nat.lt_of_lt_of_le h.lt hg.size, fun j => (World.frozen?_of_block (w := w) (a := ⟨g, j, none⟩) (hg.block g h.lt (fun e => hne (by injection e)))).trans (h.free j)⟩
theorem Ints.aside {w w' : World} {g o n r : Nat} {xs : List Int} (h : Ints w (some ⟨g, o, none⟩) n xs) (hg : w.grownBy w' (some r)) (hne : g ≠ r) : Ints w' (some ⟨g, o, none⟩) n xs :=
  ⟨h.len, fun hn => by
    obtain ⟨b, o', e, hb, hc⟩ := h.cells hn
    have e' := e
    injection e with e; injection e with e1 e2
    subst e1 e2
    exact ⟨_, _, rfl, Nat.lt_of_lt_of_le hb hg.size, fun j hj => (World.cell?_of_block (w := w) (a := ⟨g, o + j, none⟩) (hg.block g hb (fun e => hne (by injection e)))).trans (hc j hj)⟩, h.rng, h.few⟩

/-- a coefficient, or a bound -/
def coefOk (n : Int) : Bool := within n (-1000000) 1000000
theorem coefOk_iff {n : Int} : coefOk n = true ↔ -1000000 ≤ n ∧ n ≤ 1000000 := within_iff
/-- a valid constraint -/
def linOk (xs : List Int) (b : Int) : Bool := xs.all coefOk && (decide (xs.length = 4) && coefOk b)
/-- The first k numbers are coefficients. -/
def OkTo (xs : List Int) (k : Nat) : Prop := ∀ j, j < k → coefOk (xs.getD j 0) = true
theorem OkTo.zero (xs : List Int) : OkTo xs 0 := fun _ h => absurd h (by omega)
theorem OkTo.succ {xs : List Int} {k : Nat} (h : OkTo xs k) (h' : coefOk (xs.getD k 0) = true) : OkTo xs (k + 1) := fun j hj => by
  by_cases e : j = k
  · rw [e]; exact h'
  · exact h j (by omega)
theorem linOk_bad {xs : List Int} {b : Int} {k : Nat} (hk : k < xs.length) (h : coefOk (xs.getD k 0) = false) : linOk xs b = false := by
  have : xs.all coefOk = false := by
    rw [List.all_eq_false]
    refine ⟨xs.getD k 0, ?_, by rw [h]; simp⟩
    rw [List.getD_eq_getElem?_getD, List.getElem?_eq_getElem hk]; exact List.getElem_mem hk
  unfold linOk; rw [this, Bool.false_and]
theorem linOk_all {xs : List Int} {b : Int} (h : OkTo xs xs.length) : linOk xs b = (decide (xs.length = 4) && coefOk b) := by
  have : xs.all coefOk = true := by
    rw [List.all_eq_true]
    intro x hx
    obtain ⟨j, hj, rfl⟩ := List.mem_iff_getElem.1 hx
    have := h j hj
    rwa [List.getD_eq_getElem?_getD, List.getElem?_eq_getElem hj] at this
  unfold linOk; rw [this, Bool.true_and]
theorem linOk_len {xs : List Int} {b : Int} (h : linOk xs b = true) : xs.length = 4 ∧ coefOk b = true ∧ OkTo xs 4 := by
  unfold linOk at h
  simp only [Bool.and_eq_true, decide_eq_true_eq, List.all_eq_true] at h
  refine ⟨h.2.1, h.2.2, fun j hj => h.1 _ ?_⟩
  rw [List.getD_eq_getElem?_getD, List.getElem?_eq_getElem (by omega)]; exact List.getElem_mem _

theorem isCoef_any (n : Int) (w : World) :
    Calls Try.prog 63 #[.int .i64 n] w fun e w' => e = .returned (.bool (coefOk n)) ∧ w = w' := by
  go_enter Try.func63, Try.ntmps63
  go_wp2_with (first | (go_at_call 47; refine (within_any _ _ _ _).mono ?_; rintro e w' ⟨rfl, rfl⟩))
  go_ret
  exact ⟨rfl, rfl⟩
theorem l2Small_any (n : Int) (w : World) :
    Calls Try.prog 107 #[.int .i64 n] w fun e w' => e = .returned (.bool (coefOk n)) ∧ w = w' := by
  unfold coefOk within
  by_cases h : -1000000 ≤ n
  · go_enter Try.func107, Try.ntmps107
    go_wp2
    go_ret
    exact ⟨by simp [h], rfl⟩
  · go_enter Try.func107, Try.ntmps107
    go_wp2
    go_ret
    have h' : decide (-1000000 ≤ n) = false := by simp; omega
    exact ⟨by rw [h']; rfl, rfl⟩


set_option maxHeartbeats 1000000 in
theorem iLinOk_any{A : Option Addr} {n c : Nat} {xs : List Int} (b : Int) (s : Bool) {w : World} (h : Ints w A n xs) :
    Calls Try.prog 22 #[.agg #[.slice A n c, .int .i64 b, .bool s]] w fun e w' => e = .returned (.bool (linOk xs b)) ∧ Below w.heap.size w w' := by
  have hfew := h.few
  go_enter Try.func22, Try.ntmps22
  go_wp2_with fail
  go_loop [8] (fun i => ∃ k : Nat, k ≤ n ∧ i = .int .i64 k ∧ OkTo xs k) (fun i => n - (intOf i).toNat)
  case atStart => exact ⟨0, by omega, rfl, OkTo.zero xs⟩
  case round =>
    obtain ⟨k, hk, rfl, hok⟩ := hrel
    by_cases hlt : k < n
    · obtain ⟨p, o, rfl, hp, hc⟩ := h.cells (by omega)
      have hck := hc k hlt
      clear hc
      have hbad := Lib.hid (@linOk_bad xs b k (by rw [h.len]; exact hlt))
      generalize hx : xs.getD k 0 = x at *
      have HX := Lib.hid hx
      clear hx
      cases hx : coefOk x
      · go_wp2_with (first | (go_at_call 63; refine (isCoef_any _ _).mono ?_; rintro e w' ⟨rfl, rfl⟩))
        go_ret
        exact ⟨by rw [hbad.out hx]; rfl, by (repeat (first | with_reducible exact Below.refl _ _ | with_reducible assumption | (with_reducible refine below_drewN ?_ _) | (with_reducible refine Below.drew ?_) | (with_reducible refine Below.setCell ?_ (by first | omega | (simp; done) | (simp; omega)) _) | (with_reducible refine Below.alloc ?_ (by first | omega | (simp; done) | (simp; omega)) _) | refine Below.trans ?_ (Below.mono (by with_reducible assumption) (by first | omega | (simp; done) | (simp; omega)))))⟩
      · go_wp2_with (first | (go_at_call 63; refine (isCoef_any _ _).mono ?_; rintro e w' ⟨rfl, rfl⟩))
        go_round
        case rel => exact ⟨k + 1, by omega, by go_num, hok.succ (by rw [HX.out]; exact hx)⟩
        case measure => simp [intOf]; omega
    · obtain rfl : k = n := by omega
      have hall := linOk_all (b := b) (by rw [h.len]; exact hok)
      rw [h.len] at hall
      by_cases h4 : k = 4
      · subst h4
        have HA := Lib.hid hall
        clear hall
        go_wp2_with (first | (go_at_call 63; refine (isCoef_any _ _).mono ?_; rintro e w' ⟨rfl, rfl⟩))
        go_ret
        exact ⟨by rw [HA.out]; simp, by (repeat (first | with_reducible exact Below.refl _ _ | with_reducible assumption | (with_reducible refine below_drewN ?_ _) | (with_reducible refine Below.drew ?_) | (with_reducible refine Below.setCell ?_ (by first | omega | (simp; done) | (simp; omega)) _) | (with_reducible refine Below.alloc ?_ (by first | omega | (simp; done) | (simp; omega)) _) | refine Below.trans ?_ (Below.mono (by with_reducible assumption) (by first | omega | (simp; done) | (simp; omega)))))⟩
      · have h5 : ((k : Int) == 4) = false := by simp; omega
        have HA := Lib.hid hall
        clear hall
        go_wp2_with (first | (go_at_call 63; refine (isCoef_any _ _).mono ?_; rintro e w' ⟨rfl, rfl⟩))
        go_ret
        exact ⟨by rw [HA.out]; simp [h4], by (repeat (first | with_reducible exact Below.refl _ _ | with_reducible assumption | (with_reducible refine below_drewN ?_ _) | (with_reducible refine Below.drew ?_) | (with_reducible refine Below.setCell ?_ (by first | omega | (simp; done) | (simp; omega)) _) | (with_reducible refine Below.alloc ?_ (by first | omega | (simp; done) | (simp; omega)) _) | refine Below.trans ?_ (Below.mono (by with_reducible assumption) (by first | omega | (simp; done) | (simp; omega)))))⟩

set_option maxHeartbeats 1000000 in
theorem sLinOk_any{A : Option Addr} {n c : Nat} {xs : List Int} (b : Int) (s : Bool) {w : World} (h : Ints w A n xs) :
    Calls Try.prog 82 #[.agg #[.slice A n c, .int .i64 b, .bool s]] w fun e w' => e = .returned (.bool (linOk xs b)) ∧ Below w.heap.size w w' := by
  have hfew := h.few
  go_enter Try.func82, Try.ntmps82
  go_wp2_with fail
  go_loop [3] (fun i => ∃ k : Nat, k ≤ n ∧ i = .int .i64 k ∧ OkTo xs k) (fun i => n - (intOf i).toNat)
  case atStart => exact ⟨0, by omega, rfl, OkTo.zero xs⟩
  case round =>
    obtain ⟨k, hk, rfl, hok⟩ := hrel
    by_cases hlt : k < n
    · obtain ⟨p, o, rfl, hp, hc⟩ := h.cells (by omega)
      have hck := hc k hlt
      clear hc
      have hbad := Lib.hid (@linOk_bad xs b k (by rw [h.len]; exact hlt))
      generalize hx : xs.getD k 0 = x at *
      have HX := Lib.hid hx
      clear hx
      cases hx : coefOk x
      · go_wp2_with (first | (go_at_call 107; refine (l2Small_any _ _).mono ?_; rintro e w' ⟨rfl, rfl⟩))
        go_ret
        exact ⟨by rw [hbad.out hx]; rfl, by (repeat (first | with_reducible exact Below.refl _ _ | with_reducible assumption | (with_reducible refine below_drewN ?_ _) | (with_reducible refine Below.drew ?_) | (with_reducible refine Below.setCell ?_ (by first | omega | (simp; done) | (simp; omega)) _) | (with_reducible refine Below.alloc ?_ (by first | omega | (simp; done) | (simp; omega)) _) | refine Below.trans ?_ (Below.mono (by with_reducible assumption) (by first | omega | (simp; done) | (simp; omega)))))⟩
      · go_wp2_with (first | (go_at_call 107; refine (l2Small_any _ _).mono ?_; rintro e w' ⟨rfl, rfl⟩))
        go_round
        case rel => exact ⟨k + 1, by omega, by go_num, hok.succ (by rw [HX.out]; exact hx)⟩
        case measure => simp [intOf]; omega
    · obtain rfl : k = n := by omega
      have hall := linOk_all (b := b) (by rw [h.len]; exact hok)
      rw [h.len] at hall
      by_cases h4 : k = 4
      · subst h4
        have HA := Lib.hid hall
        clear hall
        go_wp2_with (first | (go_at_call 107; refine (l2Small_any _ _).mono ?_; rintro e w' ⟨rfl, rfl⟩))
        go_ret
        exact ⟨by rw [HA.out]; simp, by (repeat (first | with_reducible exact Below.refl _ _ | with_reducible assumption | (with_reducible refine below_drewN ?_ _) | (with_reducible refine Below.drew ?_) | (with_reducible refine Below.setCell ?_ (by first | omega | (simp; done) | (simp; omega)) _) | (with_reducible refine Below.alloc ?_ (by first | omega | (simp; done) | (simp; omega)) _) | refine Below.trans ?_ (Below.mono (by with_reducible assumption) (by first | omega | (simp; done) | (simp; omega)))))⟩
      · have h5 : ((k : Int) == 4) = false := by simp; omega
        have HA := Lib.hid hall
        clear hall
        go_wp2_with (first | (go_at_call 107; refine (l2Small_any _ _).mono ?_; rintro e w' ⟨rfl, rfl⟩))
        go_ret
        exact ⟨by rw [HA.out]; simp [h4], by (repeat (first | with_reducible exact Below.refl _ _ | with_reducible assumption | (with_reducible refine below_drewN ?_ _) | (with_reducible refine Below.drew ?_) | (with_reducible refine Below.setCell ?_ (by first | omega | (simp; done) | (simp; omega)) _) | (with_reducible refine Below.alloc ?_ (by first | omega | (simp; done) | (simp; omega)) _) | refine Below.trans ?_ (Below.mono (by with_reducible assumption) (by first | omega | (simp; done) | (simp; omega)))))⟩

/-- equal numbers up to place k -/
def SameTo (xs ys : List Int) (k : Nat) : Prop := ∀ j, j < k → xs.getD j 0 = ys.getD j 0
theorem SameTo.zero (xs ys : List Int) : SameTo xs ys 0 := fun _ h => absurd h (by omega)
theorem SameTo.succ {xs ys : List Int} {k : Nat} (h : SameTo xs ys k) (h' : xs.getD k 0 = ys.getD k 0) : SameTo xs ys (k + 1) := fun j hj => by
  by_cases e : j = k
  · rw [e]; exact h'
  · exact h j (by omega)
theorem same_no {xs ys : List Int} {k : Nat} (h : (xs.getD k 0 != ys.getD k 0) = true) : decide (xs = ys) = false := by
  rw [decide_eq_false_iff_not]
  rintro rfl
  simp at h
theorem same_len {xs ys : List Int} (h : xs.length ≠ ys.length) : decide (xs = ys) = false := by
  rw [decide_eq_false_iff_not]
  rintro rfl
  exact h rfl
theorem same_yes {xs ys : List Int} (hl : xs.length = ys.length) (h : SameTo xs ys xs.length) : decide (xs = ys) = true := by
  rw [decide_eq_true_iff]
  refine List.ext_getElem hl fun j h1 h2 => ?_
  have := h j h1
  rwa [List.getD_eq_getElem?_getD, List.getElem?_eq_getElem h1, List.getD_eq_getElem?_getD, List.getElem?_eq_getElem h2] at this


set_option maxHeartbeats 1000000 in
theorem eqIntS_any{A A' : Option Addr} {n n' c c' : Nat} {xs ys : List Int} {w : World} (h : Ints w A n xs) (h' : Ints w A' n' ys) :
    Calls Try.prog 34 #[.slice A n c, .slice A' n' c'] w fun e w' => e = .returned (.bool (decide (xs = ys))) ∧ ∃ m, w' = w.drewN m := by
  have hfew := h.few
  by_cases hn : n = n'
  · subst hn
    have hl := Lib.hid (h.len.trans h'.len.symm)
    go_enter Try.func34, Try.ntmps34
    go_wp2
    go_loopw [5] (fun i wr => ∃ k m : Nat, k ≤ n ∧ i = .int .i64 k ∧ SameTo xs ys k ∧ wr = w.drewN m) (fun i _ => n - (intOf i).toNat)
    case atStart => exact ⟨0, 0, by omega, rfl, SameTo.zero xs ys, rfl⟩
    case round =>
      obtain ⟨k, m, hk, rfl, hok, rfl⟩ := hrel
      by_cases hlt : k < n
      · obtain ⟨p, o, rfl, hp, hc⟩ := h.cells (by omega)
        obtain ⟨p', o', rfl, hp', hc'⟩ := h'.cells (by omega)
        have hck := hc k hlt
        have hck' := hc' k hlt
        clear hc hc'
        have hno := Lib.hid (@same_no xs ys k)
        have hyes := Lib.hid (@SameTo.succ xs ys k hok)
        generalize xs.getD k 0 = x at *
        generalize ys.getD k 0 = y at *
        cases hx : (x != y)
        · go_wp2
          go_quiet (fail)
          go_wp2
          go_roundw
          case rel => exact ⟨k + 1, m + nq, by omega, by go_num, hyes.out (by simpa using hx), by first | rfl | exact World.drewN_drewN ..⟩
          case measure => simp [intOf]; omega
        · go_wp2
          go_quiet (fail)
          go_wp2
          go_ret
          exact ⟨by rw [hno.out hx]; rfl, m + nq, by first | rfl | exact World.drewN_drewN ..⟩
      · obtain rfl : k = n := by omega
        go_wp2
        go_ret
        exact ⟨by rw [same_yes hl.out (by rw [h.len]; exact hok)]; rfl, m, rfl⟩
  · have hne : ((n : Int) != (n' : Int)) = true := by simp; omega
    have hd := same_len (xs := xs) (ys := ys) (by rw [h.len, h'.len]; exact hn)
    rw [hd]
    go_enter Try.func34, Try.ntmps34
    go_wp2
    go_ret
    exact ⟨rfl, 0, rfl⟩

set_option maxHeartbeats 1000000 in
theorem slicesEqual_any{A A' : Option Addr} {n n' c c' : Nat} {xs ys : List Int} {w : World} (h : Ints w A n xs) (h' : Ints w A' n' ys) :
    Calls Try.prog 57 #[.slice A n c, .slice A' n' c'] w fun e w' => e = .returned (.bool (decide (xs = ys))) ∧ ∃ m, w' = w.drewN m := by
  have hfew := h.few
  by_cases hn : n = n'
  · subst hn
    have hl := Lib.hid (h.len.trans h'.len.symm)
    go_enter Try.func57, Try.ntmps57
    go_wp2
    go_loopw [13] (fun i wr => ∃ k m : Nat, k ≤ n ∧ i = .int .i64 k ∧ SameTo xs ys k ∧ wr = w.drewN m) (fun i _ => n - (intOf i).toNat)
    case atStart => exact ⟨0, 0, by omega, rfl, SameTo.zero xs ys, rfl⟩
    case round =>
      obtain ⟨k, m, hk, rfl, hok, rfl⟩ := hrel
      by_cases hlt : k < n
      · obtain ⟨p, o, rfl, hp, hc⟩ := h.cells (by omega)
        obtain ⟨p', o', rfl, hp', hc'⟩ := h'.cells (by omega)
        have hck := hc k hlt
        have hck' := hc' k hlt
        clear hc hc'
        have hno := Lib.hid (@same_no xs ys k)
        have hyes := Lib.hid (@SameTo.succ xs ys k hok)
        generalize xs.getD k 0 = x at *
        generalize ys.getD k 0 = y at *
        cases hx : (x != y)
        · go_wp2
          go_quiet (fail)
          go_wp2
          go_roundw
          case rel => exact ⟨k + 1, m + nq, by omega, by go_num, hyes.out (by simpa using hx), by first | rfl | exact World.drewN_drewN ..⟩
          case measure => simp [intOf]; omega
        · go_wp2
          go_quiet (fail)
          go_wp2
          go_ret
          exact ⟨by rw [hno.out hx]; rfl, m + nq, by first | rfl | exact World.drewN_drewN ..⟩
      · obtain rfl : k = n := by omega
        go_wp2
        go_ret
        exact ⟨by rw [same_yes hl.out (by rw [h.len]; exact hok)]; rfl, m, rfl⟩
  · have hne : ((n : Int) != (n' : Int)) = true := by simp; omega
    have hd := same_len (xs := xs) (ys := ys) (by rw [h.len, h'.len]; exact hn)
    rw [hd]
    go_enter Try.func57, Try.ntmps57
    go_wp2
    go_ret
    exact ⟨rfl, 0, rfl⟩
theorem szIntS_any {A : Option Addr} {n c : Nat} (left : Int) (hn : n ≤ 9223372036854775807) (h0 : 0 ≤ left) (h1 : left ≤ 1048576) (w : World) :
    Calls Try.prog 101 #[.slice A n c, .int .i64 left] w fun e w' => e = .returned (.int .i64 (if (n : Int) ≤ left then left - n else -1)) ∧ w = w' := by
  by_cases h : (n : Int) ≤ left
  · rw [if_pos h]
    go_enter Try.func101, Try.ntmps101
    go_wp2
    go_ret
    exact ⟨rfl, rfl⟩
  · rw [if_neg h]
    go_enter Try.func101, Try.ntmps101
    go_wp2
    go_ret
    exact ⟨rfl, rfl⟩
theorem szLin_any {A : Option Addr} {n c : Nat} (b : Int) (s : Bool) (left : Int) (hn : n ≤ 9223372036854775807) (h0 : 0 ≤ left) (h1 : left ≤ 1048576) (w : World) :
    Calls Try.prog 72 #[.agg #[.slice A n c, .int .i64 b, .bool s], .int .i64 left] w fun e w' => e = .returned (.int .i64 (if (n : Int) ≤ left then left - n else -1)) ∧ Below w.heap.size w w' := by
  by_cases h : (n : Int) ≤ left
  · rw [if_pos h]
    go_enter Try.func72, Try.ntmps72
    go_wp2_with (first | (go_at_call 101; refine (szIntS_any _ hn h0 h1 _).mono ?_; rw [if_pos h]; rintro e w' ⟨rfl, rfl⟩))
    go_ret
    exact ⟨rfl, by (repeat (first | with_reducible exact Below.refl _ _ | with_reducible assumption | (with_reducible refine below_drewN ?_ _) | (with_reducible refine Below.drew ?_) | (with_reducible refine Below.setCell ?_ (by first | omega | (simp; done) | (simp; omega)) _) | (with_reducible refine Below.alloc ?_ (by first | omega | (simp; done) | (simp; omega)) _) | refine Below.trans ?_ (Below.mono (by with_reducible assumption) (by first | omega | (simp; done) | (simp; omega)))))⟩
  · rw [if_neg h]
    go_enter Try.func72, Try.ntmps72
    go_wp2_with (first | (go_at_call 101; refine (szIntS_any _ hn h0 h1 _).mono ?_; rw [if_neg h]; rintro e w' ⟨rfl, rfl⟩))
    go_ret
    exact ⟨rfl, by (repeat (first | with_reducible exact Below.refl _ _ | with_reducible assumption | (with_reducible refine below_drewN ?_ _) | (with_reducible refine Below.drew ?_) | (with_reducible refine Below.setCell ?_ (by first | omega | (simp; done) | (simp; omega)) _) | (with_reducible refine Below.alloc ?_ (by first | omega | (simp; done) | (simp; omega)) _) | refine Below.trans ?_ (Below.mono (by with_reducible assumption) (by first | omega | (simp; done) | (simp; omega)))))⟩
/-- two constraints are one -/
def linSame (xs : List Int) (b : Int) (s : Bool) (ys : List Int) (b' : Int) (s' : Bool) : Bool := decide (xs = ys) && (b == b' && s == s')

theorem eqLin_any{A A' : Option Addr} {n n' c c' : Nat} {xs ys : List Int} (b b' : Int) (s s' : Bool) {w : World} (h : Ints w A n xs) (h' : Ints w A' n' ys) :
    Calls Try.prog 75 #[.agg #[.slice A n c, .int .i64 b, .bool s], .agg #[.slice A' n' c', .int .i64 b', .bool s']] w fun e w' => e = .returned (.bool (linSame xs b s ys b' s')) ∧ Below w.heap.size w w' := by
  have H := (h.alloc (.cells #[.slice A n c, .int .i64 b, .bool s] 34)).alloc (.cells #[.slice A' n' c', .int .i64 b', .bool s'] 34)
  have H' := (h'.alloc (.cells #[.slice A n c, .int .i64 b, .bool s] 34)).alloc (.cells #[.slice A' n' c', .int .i64 b', .bool s'] 34)
  unfold linSame
  cases h1 : decide (xs = ys)
  · go_enter Try.func75, Try.ntmps75
    go_wp2_with (first | (go_at_call 34; refine (eqIntS_any H H').mono ?_; rw [h1]; rintro e w' ⟨rfl, m, rfl⟩))
    go_ret
    exact ⟨by simp, by (repeat (first | with_reducible exact Below.refl _ _ | with_reducible assumption | (with_reducible refine below_drewN ?_ _) | (with_reducible refine Below.drew ?_) | (with_reducible refine Below.setCell ?_ (by first | omega | (simp; done) | (simp; omega)) _) | (with_reducible refine Below.alloc ?_ (by first | omega | (simp; done) | (simp; omega)) _) | refine Below.trans ?_ (Below.mono (by with_reducible assumption) (by first | omega | (simp; done) | (simp; omega)))))⟩
  by_cases h2 : b = b'
  · subst h2
    cases s <;> cases s' <;>
    · go_enter Try.func75, Try.ntmps75
      go_wp2_with (first | (go_at_call 34; refine (eqIntS_any H H').mono ?_; rw [h1]; rintro e w' ⟨rfl, m, rfl⟩))
      go_ret
      exact ⟨by simp, by (repeat (first | with_reducible exact Below.refl _ _ | with_reducible assumption | (with_reducible refine below_drewN ?_ _) | (with_reducible refine Below.drew ?_) | (with_reducible refine Below.setCell ?_ (by first | omega | (simp; done) | (simp; omega)) _) | (with_reducible refine Below.alloc ?_ (by first | omega | (simp; done) | (simp; omega)) _) | refine Below.trans ?_ (Below.mono (by with_reducible assumption) (by first | omega | (simp; done) | (simp; omega)))))⟩
  · have h3 : (b == b') = false := by simpa using h2
    have h4 : (b != b') = true := by simpa using h2
    go_enter Try.func75, Try.ntmps75
    go_wp2_with (first | (go_at_call 34; refine (eqIntS_any H H').mono ?_; rw [h1]; rintro e w' ⟨rfl, m, rfl⟩))
    go_ret
    exact ⟨by simp [h3], by (repeat (first | with_reducible exact Below.refl _ _ | with_reducible assumption | (with_reducible refine below_drewN ?_ _) | (with_reducible refine Below.drew ?_) | (with_reducible refine Below.setCell ?_ (by first | omega | (simp; done) | (simp; omega)) _) | (with_reducible refine Below.alloc ?_ (by first | omega | (simp; done) | (simp; omega)) _) | refine Below.trans ?_ (Below.mono (by with_reducible assumption) (by first | omega | (simp; done) | (simp; omega)))))⟩

theorem iLinSame_any{A A' : Option Addr} {n n' c c' : Nat} {xs ys : List Int} (b b' : Int) (s s' : Bool) {w : World} (h : Ints w A n xs) (h' : Ints w A' n' ys) :
    Calls Try.prog 16 #[.agg #[.slice A n c, .int .i64 b, .bool s], .agg #[.slice A' n' c', .int .i64 b', .bool s']] w fun e w' => e = .returned (.bool (linSame xs b s ys b' s')) ∧ Below w.heap.size w w' := by
  have H := (h.alloc (.cells #[.slice A n c, .int .i64 b, .bool s] 34)).alloc (.cells #[.slice A' n' c', .int .i64 b', .bool s'] 34)
  have H' := (h'.alloc (.cells #[.slice A n c, .int .i64 b, .bool s] 34)).alloc (.cells #[.slice A' n' c', .int .i64 b', .bool s'] 34)
  unfold linSame
  cases h1 : decide (xs = ys)
  · go_enter Try.func16, Try.ntmps16
    go_wp2_with (first | (go_at_call 57; refine (slicesEqual_any H H').mono ?_; rw [h1]; rintro e w' ⟨rfl, m, rfl⟩))
    go_ret
    exact ⟨by simp, by (repeat (first | with_reducible exact Below.refl _ _ | with_reducible assumption | (with_reducible refine below_drewN ?_ _) | (with_reducible refine Below.drew ?_) | (with_reducible refine Below.setCell ?_ (by first | omega | (simp; done) | (simp; omega)) _) | (with_reducible refine Below.alloc ?_ (by first | omega | (simp; done) | (simp; omega)) _) | refine Below.trans ?_ (Below.mono (by with_reducible assumption) (by first | omega | (simp; done) | (simp; omega)))))⟩
  by_cases h2 : b = b'
  · subst h2
    cases s <;> cases s' <;>
    · go_enter Try.func16, Try.ntmps16
      go_wp2_with (first | (go_at_call 57; refine (slicesEqual_any H H').mono ?_; rw [h1]; rintro e w' ⟨rfl, m, rfl⟩))
      go_ret
      exact ⟨by simp, by (repeat (first | with_reducible exact Below.refl _ _ | with_reducible assumption | (with_reducible refine below_drewN ?_ _) | (with_reducible refine Below.drew ?_) | (with_reducible refine Below.setCell ?_ (by first | omega | (simp; done) | (simp; omega)) _) | (with_reducible refine Below.alloc ?_ (by first | omega | (simp; done) | (simp; omega)) _) | refine Below.trans ?_ (Below.mono (by with_reducible assumption) (by first | omega | (simp; done) | (simp; omega)))))⟩
  · have h3 : (b == b') = false := by simpa using h2
    have h4 : (b != b') = true := by simpa using h2
    go_enter Try.func16, Try.ntmps16
    go_wp2_with (first | (go_at_call 57; refine (slicesEqual_any H H').mono ?_; rw [h1]; rintro e w' ⟨rfl, m, rfl⟩))
    go_ret
    exact ⟨by simp [h3], by (repeat (first | with_reducible exact Below.refl _ _ | with_reducible assumption | (with_reducible refine below_drewN ?_ _) | (with_reducible refine Below.drew ?_) | (with_reducible refine Below.setCell ?_ (by first | omega | (simp; done) | (simp; omega)) _) | (with_reducible refine Below.alloc ?_ (by first | omega | (simp; done) | (simp; omega)) _) | refine Below.trans ?_ (Below.mono (by with_reducible assumption) (by first | omega | (simp; done) | (simp; omega)))))⟩
/-- no number counts -/
def allZero (xs : List Int) : Bool := xs.all (· == 0)
def ZeroTo (xs : List Int) (k : Nat) : Prop := ∀ j, j < k → xs.getD j 0 = 0
theorem ZeroTo.zero (xs : List Int) : ZeroTo xs 0 := fun _ h => absurd h (by omega)
theorem ZeroTo.succ {xs : List Int} {k : Nat} (h : ZeroTo xs k) (h' : (xs.getD k 0 != 0) = false) : ZeroTo xs (k + 1) := fun j hj => by
  by_cases e : j = k
  · rw [e]; simpa using h'
  · exact h j (by omega)
theorem allZero_no {xs : List Int} {k : Nat} (hk : k < xs.length) (h : (xs.getD k 0 != 0) = true) : allZero xs = false := by
  unfold allZero
  rw [List.all_eq_false]
  refine ⟨xs.getD k 0, ?_, ?_⟩
  · rw [List.getD_eq_getElem?_getD, List.getElem?_eq_getElem hk]; exact List.getElem_mem hk
  · simpa using h
theorem allZero_yes {xs : List Int} (h : ZeroTo xs xs.length) : allZero xs = true := by
  unfold allZero
  rw [List.all_eq_true]
  intro x hx
  obtain ⟨j, hj, rfl⟩ := List.mem_iff_getElem.1 hx
  have := h j hj
  rw [List.getD_eq_getElem?_getD, List.getElem?_eq_getElem hj] at this
  simpa using this
theorem isFlat1_any (n : Int) (w : World) :
    Calls Try.prog 110 #[.int .i64 n] w fun e w' => e = .returned (.bool (n != 0)) ∧ w = w' := by
  go_enter Try.func110, Try.ntmps110
  go_wp2
  go_ret
  exact ⟨rfl, rfl⟩

theorem indexFunc_any {A : Option Addr} {n c : Nat} {xs : List Int} {w : World} (h : Ints w A n xs) :
    Calls Try.prog 121 #[.slice A n c, .func (.func 110) #[] #[]] w fun e w' => ∃ r : Int, e = .returned (.int .i64 r) ∧ decide (0 ≤ r) = !allZero xs ∧ w = w' := by
  have hfew := h.few
  go_enter Try.func121, Try.ntmps121
  go_wp2_with fail
  go_loop [8] (fun i => ∃ k : Nat, k ≤ n ∧ i = .int .i64 k ∧ ZeroTo xs k) (fun i => n - (intOf i).toNat)
  case atStart => exact ⟨0, by omega, rfl, ZeroTo.zero xs⟩
  case round =>
    obtain ⟨k, hk, rfl, hok⟩ := hrel
    by_cases hlt : k < n
    · obtain ⟨p, o, rfl, hp, hc⟩ := h.cells (by omega)
      have hck := hc k hlt
      clear hc
      have hbad := Lib.hid (@allZero_no xs k (by rw [h.len]; exact hlt))
      have hyes := Lib.hid (@ZeroTo.succ xs k hok)
      generalize xs.getD k 0 = x at *
      cases hx : (x != 0)
      · go_wp2_with (first | (go_at_call 110; refine (isFlat1_any _ _).mono ?_; rintro e w' ⟨rfl, rfl⟩))
        go_round
        case rel => exact ⟨k + 1, by omega, by go_num, hyes.out hx⟩
        case measure => simp [intOf]; omega
      · go_wp2_with (first | (go_at_call 110; refine (isFlat1_any _ _).mono ?_; rintro e w' ⟨rfl, rfl⟩))
        go_ret
        exact ⟨(k : Int), rfl, by rw [hbad.out hx]; simp, rfl⟩
    · obtain rfl : k = n := by omega
      go_wp2
      go_ret
      exact ⟨-1, rfl, by rw [allZero_yes (by rw [h.len]; exact hok)]; rfl, rfl⟩

theorem containsFunc_any {A : Option Addr} {n c : Nat} {xs : List Int} {w : World} (h : Ints w A n xs) :
    Calls Try.prog 109 #[.slice A n c, .func (.func 110) #[] #[]] w fun e w' => e = .returned (.bool (!allZero xs)) ∧ w = w' := by
  go_enter Try.func109, Try.ntmps109
  go_wp2_with fail
  refine (indexFunc_any h).mono ?_
  rintro e w' ⟨r, rfl, hr, rfl⟩
  have HR := Lib.hid hr
  clear hr
  go_wp2
  go_ret
  exact ⟨by rw [← HR.out]; rfl, rfl⟩

theorem isFlat_any {A : Option Addr} {n c : Nat} {xs : List Int} (b : Int) (s : Bool) {w : World} (h : Ints w A n xs) :
    Calls Try.prog 84 #[.agg #[.slice A n c, .int .i64 b, .bool s]] w fun e w' => e = .returned (.bool (linOk xs b && allZero xs)) ∧ Below w.heap.size w w' := by
  have hc : Ints (w.alloc (.cells #[.slice A n c, .int .i64 b, .bool s] 34)) A n xs := h.alloc _
  go_enter Try.func84, Try.ntmps84
  go_wp2_with fail
  refine (iLinOk_any b s hc).mono ?_
  rintro e w1 ⟨rfl, hb1⟩
  have hc1 := hc.later hb1
  have hz1 := hb1.size; (try simp at hz1); have hB1 : Below w.heap.size w w1 := (by refine Below.trans ?_ (Below.mono hb1 (by first | omega | (simp; done) | (simp; omega))); (repeat (first | with_reducible exact Below.refl _ _ | with_reducible assumption | (with_reducible refine below_drewN ?_ _) | (with_reducible refine Below.drew ?_) | (with_reducible refine Below.setCell ?_ (by first | omega | (simp; done) | (simp; omega)) _) | (with_reducible refine Below.alloc ?_ (by first | omega | (simp; done) | (simp; omega)) _) | refine Below.trans ?_ (Below.mono (by with_reducible assumption) (by first | omega | (simp; done) | (simp; omega)))))); obtain ⟨kc_, fc_, lc_⟩ := keep_later (a := ⟨w.heap.size, 0, none⟩) (v := .slice A n c) hb1 (by go_simp) (by go_simp)
  cases hL : linOk xs b
  · go_wp2
    go_ret
    exact ⟨by simp [hL], by (repeat (first | with_reducible exact Below.refl _ _ | with_reducible assumption | (with_reducible refine below_drewN ?_ _) | (with_reducible refine Below.drew ?_) | (with_reducible refine Below.setCell ?_ (by first | omega | (simp; done) | (simp; omega)) _) | (with_reducible refine Below.alloc ?_ (by first | omega | (simp; done) | (simp; omega)) _) | refine Below.trans ?_ (Below.mono (by with_reducible assumption) (by first | omega | (simp; done) | (simp; omega)))))⟩
  · go_wp2_with fail
    refine (containsFunc_any hc1).mono ?_
    rintro e w2 ⟨rfl, rfl⟩
    go_wp2
    go_ret
    exact ⟨by simp [*], by (repeat (first | with_reducible exact Below.refl _ _ | with_reducible assumption | (with_reducible refine below_drewN ?_ _) | (with_reducible refine Below.drew ?_) | (with_reducible refine Below.setCell ?_ (by first | omega | (simp; done) | (simp; omega)) _) | (with_reducible refine Below.alloc ?_ (by first | omega | (simp; done) | (simp; omega)) _) | refine Below.trans ?_ (Below.mono (by with_reducible assumption) (by first | omega | (simp; done) | (simp; omega)))))⟩

theorem l2Empty_any {A : Option Addr} {n c : Nat} {xs : List Int} (b : Int) (s : Bool) {w : World} (h : Ints w A n xs) :
    Calls Try.prog 103 #[.agg #[.slice A n c, .int .i64 b, .bool s]] w fun e w' => e = .returned (.bool (allZero xs)) ∧ Below w.heap.size w w' := by
  have hfew := h.few
  go_enter Try.func103, Try.ntmps103
  go_wp2_with fail
  go_loop [3] (fun i => ∃ k : Nat, k ≤ n ∧ i = .int .i64 k ∧ ZeroTo xs k) (fun i => n - (intOf i).toNat)
  case atStart => exact ⟨0, by omega, rfl, ZeroTo.zero xs⟩
  case round =>
    obtain ⟨k, hk, rfl, hok⟩ := hrel
    by_cases hlt : k < n
    · obtain ⟨p, o, rfl, hp, hc⟩ := h.cells (by omega)
      have hck := hc k hlt
      clear hc
      have hbad := Lib.hid (@allZero_no xs k (by rw [h.len]; exact hlt))
      have hyes := Lib.hid (@ZeroTo.succ xs k hok)
      generalize xs.getD k 0 = x at *
      cases hx : (x != 0)
      · go_wp2
        go_round
        case rel => exact ⟨k + 1, by omega, by go_num, hyes.out hx⟩
        case measure => simp [intOf]; omega
      · go_wp2
        go_ret
        exact ⟨by rw [hbad.out hx]; rfl, by (repeat (first | with_reducible exact Below.refl _ _ | with_reducible assumption | (with_reducible refine below_drewN ?_ _) | (with_reducible refine Below.drew ?_) | (with_reducible refine Below.setCell ?_ (by first | omega | (simp; done) | (simp; omega)) _) | (with_reducible refine Below.alloc ?_ (by first | omega | (simp; done) | (simp; omega)) _) | refine Below.trans ?_ (Below.mono (by with_reducible assumption) (by first | omega | (simp; done) | (simp; omega)))))⟩
    · obtain rfl : k = n := by omega
      go_wp2
      go_ret
      exact ⟨by rw [allZero_yes (by rw [h.len]; exact hok)]; rfl, by (repeat (first | with_reducible exact Below.refl _ _ | with_reducible assumption | (with_reducible refine below_drewN ?_ _) | (with_reducible refine Below.drew ?_) | (with_reducible refine Below.setCell ?_ (by first | omega | (simp; done) | (simp; omega)) _) | (with_reducible refine Below.alloc ?_ (by first | omega | (simp; done) | (simp; omega)) _) | refine Below.trans ?_ (Below.mono (by with_reducible assumption) (by first | omega | (simp; done) | (simp; omega)))))⟩
/-- contradictory; trivially true -/
def badB (b : Int) (s : Bool) : Bool := decide (b < 0) || (b == 0 && s)
def linBad (xs : List Int) (b : Int) (s : Bool) : Bool := linOk xs b && (allZero xs && badB b s)
def linFree (xs : List Int) (b : Int) (s : Bool) : Bool := linOk xs b && (allZero xs && !badB b s)

theorem iLinBad_any {A : Option Addr} {n c : Nat} {xs : List Int} (b : Int) (s : Bool) {w : World} (h : Ints w A n xs) :
    Calls Try.prog 54 #[.agg #[.slice A n c, .int .i64 b, .bool s]] w fun e w' => e = .returned (.bool (linBad xs b s)) ∧ Below w.heap.size w w' := by
  have hc : Ints (w.alloc (.cells #[.slice A n c, .int .i64 b, .bool s] 34)) A n xs := h.alloc _
  unfold linBad
  go_enter Try.func54, Try.ntmps54
  go_wp2_with fail
  refine (isFlat_any b s hc).mono ?_
  rintro e w1 ⟨rfl, hb1⟩
  have hz1 := hb1.size; (try simp at hz1); have hB1 : Below w.heap.size w w1 := (by refine Below.trans ?_ (Below.mono hb1 (by first | omega | (simp; done) | (simp; omega))); (repeat (first | with_reducible exact Below.refl _ _ | with_reducible assumption | (with_reducible refine below_drewN ?_ _) | (with_reducible refine Below.drew ?_) | (with_reducible refine Below.setCell ?_ (by first | omega | (simp; done) | (simp; omega)) _) | (with_reducible refine Below.alloc ?_ (by first | omega | (simp; done) | (simp; omega)) _) | refine Below.trans ?_ (Below.mono (by with_reducible assumption) (by first | omega | (simp; done) | (simp; omega)))))); obtain ⟨kc_, fc_, lc_⟩ := keep_later (a := ⟨w.heap.size, 0, none⟩) (v := .slice A n c) hb1 (by go_simp) (by go_simp); obtain ⟨kc_, fc_, lc_⟩ := keep_later (a := ⟨w.heap.size, 1, none⟩) (v := .int .i64 b) hb1 (by go_simp) (by go_simp); obtain ⟨kc_, fc_, lc_⟩ := keep_later (a := ⟨w.heap.size, 2, none⟩) (v := .bool s) hb1 (by go_simp) (by go_simp)
  clear hb1
  cases hL : linOk xs b
  · go_wp2
    go_ret
    exact ⟨by simp [hL], by (repeat (first | with_reducible exact Below.refl _ _ | with_reducible assumption | (with_reducible refine below_drewN ?_ _) | (with_reducible refine Below.drew ?_) | (with_reducible refine Below.setCell ?_ (by first | omega | (simp; done) | (simp; omega)) _) | (with_reducible refine Below.alloc ?_ (by first | omega | (simp; done) | (simp; omega)) _) | refine Below.trans ?_ (Below.mono (by with_reducible assumption) (by first | omega | (simp; done) | (simp; omega)))))⟩
  cases hZ : allZero xs
  · go_wp2
    go_ret
    exact ⟨by simp [hL, hZ], by (repeat (first | with_reducible exact Below.refl _ _ | with_reducible assumption | (with_reducible refine below_drewN ?_ _) | (with_reducible refine Below.drew ?_) | (with_reducible refine Below.setCell ?_ (by first | omega | (simp; done) | (simp; omega)) _) | (with_reducible refine Below.alloc ?_ (by first | omega | (simp; done) | (simp; omega)) _) | refine Below.trans ?_ (Below.mono (by with_reducible assumption) (by first | omega | (simp; done) | (simp; omega)))))⟩
  by_cases hb0 : b < 0
  · go_wp2
    go_ret
    exact ⟨by simp [badB, hb0, hL, hZ], by (repeat (first | with_reducible exact Below.refl _ _ | with_reducible assumption | (with_reducible refine below_drewN ?_ _) | (with_reducible refine Below.drew ?_) | (with_reducible refine Below.setCell ?_ (by first | omega | (simp; done) | (simp; omega)) _) | (with_reducible refine Below.alloc ?_ (by first | omega | (simp; done) | (simp; omega)) _) | refine Below.trans ?_ (Below.mono (by with_reducible assumption) (by first | omega | (simp; done) | (simp; omega)))))⟩
  by_cases hb1 : b = 0
  · subst hb1
    cases s <;>
    · go_wp2
      go_ret
      exact ⟨by simp [badB, hL, hZ], by (repeat (first | with_reducible exact Below.refl _ _ | with_reducible assumption | (with_reducible refine below_drewN ?_ _) | (with_reducible refine Below.drew ?_) | (with_reducible refine Below.setCell ?_ (by first | omega | (simp; done) | (simp; omega)) _) | (with_reducible refine Below.alloc ?_ (by first | omega | (simp; done) | (simp; omega)) _) | refine Below.trans ?_ (Below.mono (by with_reducible assumption) (by first | omega | (simp; done) | (simp; omega)))))⟩
  · have hb2 : (b == 0) = false := by simpa using hb1
    go_wp2
    go_ret
    exact ⟨by simp [badB, hb0, hb2, hL, hZ], by (repeat (first | with_reducible exact Below.refl _ _ | with_reducible assumption | (with_reducible refine below_drewN ?_ _) | (with_reducible refine Below.drew ?_) | (with_reducible refine Below.setCell ?_ (by first | omega | (simp; done) | (simp; omega)) _) | (with_reducible refine Below.alloc ?_ (by first | omega | (simp; done) | (simp; omega)) _) | refine Below.trans ?_ (Below.mono (by with_reducible assumption) (by first | omega | (simp; done) | (simp; omega)))))⟩

theorem sLinBad_any {A : Option Addr} {n c : Nat} {xs : List Int} (b : Int) (s : Bool) {w : World} (h : Ints w A n xs) :
    Calls Try.prog 76 #[.agg #[.slice A n c, .int .i64 b, .bool s]] w fun e w' => e = .returned (.bool (linBad xs b s)) ∧ Below w.heap.size w w' := by
  have hc : Ints (w.alloc (.cells #[.slice A n c, .int .i64 b, .bool s] 34)) A n xs := h.alloc _
  unfold linBad
  go_enter Try.func76, Try.ntmps76
  go_wp2_with fail
  refine (sLinOk_any b s hc).mono ?_
  rintro e w1 ⟨rfl, hb1⟩
  have hc1 := hc.later hb1
  have hz1 := hb1.size; (try simp at hz1); have hB1 : Below w.heap.size w w1 := (by refine Below.trans ?_ (Below.mono hb1 (by first | omega | (simp; done) | (simp; omega))); (repeat (first | with_reducible exact Below.refl _ _ | with_reducible assumption | (with_reducible refine below_drewN ?_ _) | (with_reducible refine Below.drew ?_) | (with_reducible refine Below.setCell ?_ (by first | omega | (simp; done) | (simp; omega)) _) | (with_reducible refine Below.alloc ?_ (by first | omega | (simp; done) | (simp; omega)) _) | refine Below.trans ?_ (Below.mono (by with_reducible assumption) (by first | omega | (simp; done) | (simp; omega)))))); obtain ⟨kc_, fc_, lc_⟩ := keep_later (a := ⟨w.heap.size, 0, none⟩) (v := .slice A n c) hb1 (by go_simp) (by go_simp); obtain ⟨kc_, fc_, lc_⟩ := keep_later (a := ⟨w.heap.size, 1, none⟩) (v := .int .i64 b) hb1 (by go_simp) (by go_simp); obtain ⟨kc_, fc_, lc_⟩ := keep_later (a := ⟨w.heap.size, 2, none⟩) (v := .bool s) hb1 (by go_simp) (by go_simp)
  clear hb1
  cases hL : linOk xs b
  · go_wp2
    go_ret
    exact ⟨by simp [hL], by (repeat (first | with_reducible exact Below.refl _ _ | with_reducible assumption | (with_reducible refine below_drewN ?_ _) | (with_reducible refine Below.drew ?_) | (with_reducible refine Below.setCell ?_ (by first | omega | (simp; done) | (simp; omega)) _) | (with_reducible refine Below.alloc ?_ (by first | omega | (simp; done) | (simp; omega)) _) | refine Below.trans ?_ (Below.mono (by with_reducible assumption) (by first | omega | (simp; done) | (simp; omega)))))⟩
  go_wp2_with fail
  refine (l2Empty_any b s hc1).mono ?_
  rintro e w2 ⟨rfl, hb1⟩
  have hz1 := hb1.size; (try simp at hz1); have hB1 : Below w.heap.size w w2 := (by refine Below.trans ?_ (Below.mono hb1 (by first | omega | (simp; done) | (simp; omega))); (repeat (first | with_reducible exact Below.refl _ _ | with_reducible assumption | (with_reducible refine below_drewN ?_ _) | (with_reducible refine Below.drew ?_) | (with_reducible refine Below.setCell ?_ (by first | omega | (simp; done) | (simp; omega)) _) | (with_reducible refine Below.alloc ?_ (by first | omega | (simp; done) | (simp; omega)) _) | refine Below.trans ?_ (Below.mono (by with_reducible assumption) (by first | omega | (simp; done) | (simp; omega)))))); obtain ⟨kc_, fc_, lc_⟩ := keep_later (a := ⟨w.heap.size, 0, none⟩) (v := .slice A n c) hb1 (by go_simp) (by go_simp); obtain ⟨kc_, fc_, lc_⟩ := keep_later (a := ⟨w.heap.size, 1, none⟩) (v := .int .i64 b) hb1 (by go_simp) (by go_simp); obtain ⟨kc_, fc_, lc_⟩ := keep_later (a := ⟨w.heap.size, 2, none⟩) (v := .bool s) hb1 (by go_simp) (by go_simp)
  clear hb1
  cases hZ : allZero xs
  · go_wp2
    go_ret
    exact ⟨by simp [hL, hZ], by (repeat (first | with_reducible exact Below.refl _ _ | with_reducible assumption | (with_reducible refine below_drewN ?_ _) | (with_reducible refine Below.drew ?_) | (with_reducible refine Below.setCell ?_ (by first | omega | (simp; done) | (simp; omega)) _) | (with_reducible refine Below.alloc ?_ (by first | omega | (simp; done) | (simp; omega)) _) | refine Below.trans ?_ (Below.mono (by with_reducible assumption) (by first | omega | (simp; done) | (simp; omega)))))⟩
  by_cases hb0 : b < 0
  · go_wp2
    go_ret
    exact ⟨by simp [badB, hb0, hL, hZ], by (repeat (first | with_reducible exact Below.refl _ _ | with_reducible assumption | (with_reducible refine below_drewN ?_ _) | (with_reducible refine Below.drew ?_) | (with_reducible refine Below.setCell ?_ (by first | omega | (simp; done) | (simp; omega)) _) | (with_reducible refine Below.alloc ?_ (by first | omega | (simp; done) | (simp; omega)) _) | refine Below.trans ?_ (Below.mono (by with_reducible assumption) (by first | omega | (simp; done) | (simp; omega)))))⟩
  by_cases hb1 : b = 0
  · subst hb1
    cases s <;>
    · go_wp2
      go_ret
      exact ⟨by simp [badB, hL, hZ], by (repeat (first | with_reducible exact Below.refl _ _ | with_reducible assumption | (with_reducible refine below_drewN ?_ _) | (with_reducible refine Below.drew ?_) | (with_reducible refine Below.setCell ?_ (by first | omega | (simp; done) | (simp; omega)) _) | (with_reducible refine Below.alloc ?_ (by first | omega | (simp; done) | (simp; omega)) _) | refine Below.trans ?_ (Below.mono (by with_reducible assumption) (by first | omega | (simp; done) | (simp; omega)))))⟩
  · have hb2 : (b == 0) = false := by simpa using hb1
    go_wp2
    go_ret
    exact ⟨by simp [badB, hb0, hb2, hL, hZ], by (repeat (first | with_reducible exact Below.refl _ _ | with_reducible assumption | (with_reducible refine below_drewN ?_ _) | (with_reducible refine Below.drew ?_) | (with_reducible refine Below.setCell ?_ (by first | omega | (simp; done) | (simp; omega)) _) | (with_reducible refine Below.alloc ?_ (by first | omega | (simp; done) | (simp; omega)) _) | refine Below.trans ?_ (Below.mono (by with_reducible assumption) (by first | omega | (simp; done) | (simp; omega)))))⟩
end Go.Proofs.Ytccjbipmlpnhkaa
