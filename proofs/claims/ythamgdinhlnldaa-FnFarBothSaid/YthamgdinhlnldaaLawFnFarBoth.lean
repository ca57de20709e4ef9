/- 'laws.FnFarBoth': for every input the call returns true and leaves its arguments as they were. No condition. -/
import Derived.Test.YthamgdinhlnldaaWn
import Derived.Test.YthamgdinhlnldaaL
import Derived.Deep.DeepCutAuto
namespace Go.Proofs.Ythamgdinhlnldaa
set_option maxRecDepth 100000
open Go.ChangeShapes Go.WideShapes Go.ChangeAt Go.RowKit
set_option linter.unusedSimpArgs false
set_option linter.unusedVariables false

theorem noSame (w : World) :
    Calls Try.prog 32 #[.agg #[.slice none 0 0, .int .i64 0, .bool false], .agg #[.slice none 0 0, .int .i64 0, .bool false]] w fun e w' => e = .returned (.bool true) ∧ Below w.heap.size w w' := by
  have h := iLinSame_any (c := 0) (c' := 0) 0 0 false false (Ints.nil w) (Ints.nil w)
  rw [show linSame [] 0 false [] 0 false = true by simp [linSame]] at h
  exact h
theorem okIsS {A : Option Addr} {n c : Nat} {xs : List Int} {b : Int} {s : Bool} {v : Bool} (hv : linOk xs b = v) {w : World} (h : Ints w A n xs) :
    Calls Try.prog 35 #[.agg #[.slice A n c, .int .i64 b, .bool s]] w fun e w' => e = .returned (.bool v) ∧ Below w.heap.size w w' := by
  subst hv; exact sLinOk_any b s h
/-- one and that it is not so -/
def bothL (xs : List Int) (b : Int) (s : Bool) : List LinV := [(xs, b, s), (negs xs, -b, !s)]
theorem both_sys {xs : List Int} {b : Int} (s : Bool) (hx : linOk xs b = true) : sysOk (bothL xs b s) = true := by
  simp [sysOk, bothL, allLin, hx, linOk_negs]
theorem both_ok {xs : List Int} {b : Int} (s : Bool) (hx : linOk xs b = true) : farOk (bothL xs b s) [1, 1] = true := by
  have hs := both_sys s hx
  have hxn : linOk (negs xs) (-b) = true := (linOk_negs xs b).trans hx
  obtain ⟨x0, x1, x2, x3, rfl, h0, h1, h2, h3, hb⟩ := linOk_four hx
  have hz : linOk [0, 0, 0, 0] 0 = true := by decide
  have c1 : combo 1 [0, 0, 0, 0] 1 [x0, x1, x2, x3] = [x0, x1, x2, x3] := by rw [combo_mk]; simp
  have c2 : combo 1 [x0, x1, x2, x3] 1 (negs [x0, x1, x2, x3]) = [0, 0, 0, 0] := by
    show combo 1 [x0, x1, x2, x3] 1 [-x0, -x1, -x2, -x3] = _
    rw [combo_mk]
    simp only [Int.one_mul, Int.add_right_neg]
  have s1 : sumStep ([0, 0, 0, 0], 0, false) 1 ([x0, x1, x2, x3], b, s) = some ([x0, x1, x2, x3], b, s) := by
    have hk : linSumOk 1 [0, 0, 0, 0] 0 1 [x0, x1, x2, x3] b = true := linSumOk_iff.2 ⟨hz, hx, by omega, by omega, by rw [c1]; simpa using hx⟩
    unfold sumStep
    rw [if_pos hk, c1]
    cases s <;> simp [strictOr]
  have s2 : sumStep ([x0, x1, x2, x3], b, s) 1 (negs [x0, x1, x2, x3], -b, !s) = some ([0, 0, 0, 0], 0, true) := by
    have e0 : 1 * b + 1 * (-b) = 0 := by omega
    have hk : linSumOk 1 [x0, x1, x2, x3] b 1 (negs [x0, x1, x2, x3]) (-b) = true := linSumOk_iff.2 ⟨hx, hxn, by omega, by omega, by rw [c2, e0]; exact hz⟩
    unfold sumStep
    rw [if_pos hk, c2]
    show some ([0, 0, 0, 0], 1 * b + 1 * (-b), strictOr 1 1 s (!s)) = _
    rw [e0]
    cases s <;> simp [strictOr]
  have hsum : farSum (bothL [x0, x1, x2, x3] b s) [1, 1] = some ([0, 0, 0, 0], 0, true) := by
    rw [farSum_go hs rfl]
    show ((some ([0, 0, 0, 0], 0, false) : Option LinV).bind fun a => sumStep a 1 ([x0, x1, x2, x3], b, s)).bind (fun a => sumStep a 1 (negs [x0, x1, x2, x3], -b, !s)) = _
    rw [Option.bind_some, s1, Option.bind_some, s2]
  unfold farOk
  rw [hsum]
  decide
theorem farRun_yes {ls : List LinV} {vs : List (Int × Int)} (h : farRun ls = .yes vs) : farAll ls vs = true := by
  unfold farRun at h
  split at h
  · split at h
    · cases h
    · unfold farEnd at h
      split at h
      · split at h <;> cases h
      · split at h
        · cases h
        · split at h
          · next hf => injection h with e; subst e; exact hf
          · cases h
  · cases h
theorem both_never {xs : List Int} {b : Int} {s : Bool} {vs : List (Int × Int)} (h : farAll (bothL xs b s) vs = true) : False := by
  unfold farAll at h
  rw [Bool.and_eq_true, List.all_eq_true] at h
  have h1 : linAt xs b s vs = (true, true) := by simpa using h.1 (xs, b, s) (by simp [bothL])
  have h2 : linAt (negs xs) (-b) (!s) vs = (true, true) := by simpa using h.1 (negs xs, -b, !s) (by simp [bothL])
  have := (linAt_not h1 h2).2 rfl
  cases this
theorem far_codes {ls : List LinV} (hne : ∀ vs, farRun ls ≠ .yes vs) {w w' : World} {e : Ending} (h : RunBack (farRun ls) w e w') : ∃ A n c B m d code, e = .returned (.tuple #[.slice A n c, .slice B m d, .int .i64 code]) ∧ (code != 0) = true ∧ Below w.heap.size w w' := by
  cases hr : farRun ls with
  | form => rw [hr] at h; obtain ⟨A, c, B, d, e, hb⟩ := h; exact ⟨_, _, _, _, _, _, _, e, by decide, hb⟩
  | much => rw [hr] at h; obtain ⟨A, c, B, d, e, hb⟩ := h; exact ⟨_, _, _, _, _, _, _, e, by decide, hb⟩
  | no ts => rw [hr] at h; obtain ⟨A, c, g, cap, e, _, hb⟩ := h; exact ⟨_, _, _, _, _, _, _, e, by decide, hb⟩
  | yes vs => exact absurd hr (hne vs)
theorem lins_two {W w0 : World} {E : Nat} {A A' : Option Addr} {n n' c c' : Nat} {xs ys : List Int} {b b' : Int} {s s' : Bool} {t : TypeId} (hE : w0.heap.size = E) (hW : W = w0.alloc (.cells #[.slice A n c, .int .i64 b, .bool s, .slice A' n' c', .int .i64 b', .bool s'] t)) (h : Ints w0 A n xs) (h' : Ints w0 A' n' ys) : Lins W (some ⟨E, 0, none⟩) 2 [(xs, b, s), (ys, b', s')] := by
  subst hE hW
  refine ⟨rfl, fun _ => ⟨w0.heap.size, 0, rfl, by simp, fun j hj => ?_⟩, by omega⟩
  match j, hj with
  | 0, _ => exact ⟨A, n, c, h.alloc _, by simp [go_sem], by simp [go_sem], by simp [go_sem]⟩
  | 1, _ => exact ⟨A', n', c', h'.alloc _, by simp [go_sem], by simp [go_sem], by simp [go_sem]⟩
theorem ints_two (w0 : World) (x y : Int) (hx : J64 x) (hy : J64 y) {E : Nat} (hE : w0.heap.size = E) (t : TypeId) : Ints (w0.alloc (.cells #[.int .i64 x, .int .i64 y] t)) (some ⟨E, 0, none⟩) 2 [x, y] := by
  subst hE
  refine ⟨rfl, fun _ => ⟨w0.heap.size, 0, rfl, by simp, fun j hj => ?_⟩, fun j => ?_, by omega⟩
  · match j, hj with
    | 0, _ => simp [go_sem]
    | 1, _ => simp [go_sem]
  · match j with
    | 0 => exact hx
    | 1 => exact hy
    | j + 2 => show J64 0; unfold J64; omega
set_option maxRecDepth 100000 in
theorem fnFarBoth_long {A : Option Addr} {cap : Nat} {bs : List UInt8} {w : World} (hl : ¬ bs.length ≤ 1048576) :
    Calls Try.prog 12 #[.slice A bs.length cap] w fun e w' => e = .returned (.bool true) ∧ Below w.heap.size w w' := by
  go_enter Try.func12, Try.ntmps12
  go_wp2
  go_ret
  exact ⟨rfl, Below.refl _ _⟩
set_option maxRecDepth 100000 in
set_option maxHeartbeats 8000000 in
theorem fnFarBoth_walk {A : Option Addr} {cap : Nat} {bs : List UInt8} {w : World} (h : Code8 w A cap bs) :
    Calls Try.prog 12 #[.slice A bs.length cap] w fun e w' => e = .returned (.bool true) ∧ Below w.heap.size w w' := by
  by_cases hl0 : ¬ bs.length ≤ 1048576
  · exact fnFarBoth_long hl0
  have hl : bs.length ≤ 1048576 := by omega
  go_enter Try.func12, Try.ntmps12
  go_wp2_with fail
  refine (DrawLinNot_any h hl).mono ?_
  rintro e w1 ⟨xs, b, s, q, o, n, c, rfl, ⟨hI, hn, hq, hJb⟩, hb1⟩
  have hz1 := hb1.size
  have hB1 : Below w.heap.size w w1 := hb1
  clear hb1

  cases hx : linOk xs b
  · go_wp2_with fail
    refine (iLinNot_no (xs := xs) b s (by (repeat (first | with_reducible exact hI | (with_reducible refine Ints.far ?_ (by first | omega | (simp; done) | (simp; omega)) _) | (with_reducible refine Ints.alloc ?_ _) | (with_reducible refine Ints.drewN ?_ _) | (with_reducible refine Ints.drew ?_)))) hx).mono ?_
    rintro e w2 ⟨rfl, hb1⟩
    have hz1 := hb1.size; (try simp at hz1); have hB1 : Below w.heap.size w w2 := (by refine Below.trans ?_ (Below.mono hb1 (by first | omega | (simp; done) | (simp; omega))); (repeat (first | with_reducible exact Below.refl _ _ | with_reducible assumption | (with_reducible refine below_drewN ?_ _) | (with_reducible refine Below.drew ?_) | (with_reducible refine Below.setCell ?_ (by first | omega | (simp; done) | (simp; omega)) _) | (with_reducible refine Below.alloc ?_ (by first | omega | (simp; done) | (simp; omega)) _) | refine Below.trans ?_ (Below.mono (by with_reducible assumption) (by first | omega | (simp; done) | (simp; omega)))))); (obtain ⟨kc_, fc_, lc_⟩ := keep_later (a := ⟨w1.heap.size, 0, none⟩) (v := .slice (some ⟨q, o, none⟩) n c) hb1 (by go_simp) (by go_simp); obtain ⟨kc_, fc_, lc_⟩ := keep_later (a := ⟨w1.heap.size, 1, none⟩) (v := .int .i64 b) hb1 (by go_simp) (by go_simp); obtain ⟨kc_, fc_, lc_⟩ := keep_later (a := ⟨w1.heap.size, 2, none⟩) (v := .bool s) hb1 (by go_simp) (by go_simp); replace hI : Ints _ (some ⟨q, o, none⟩) n xs := Ints.later (by (repeat (first | with_reducible exact hI | (with_reducible refine Ints.far ?_ (by first | omega | (simp; done) | (simp; omega)) _) | (with_reducible refine Ints.alloc ?_ _) | (with_reducible refine Ints.drewN ?_ _) | (with_reducible refine Ints.drew ?_)))) hb1); clear hb1
    have c1 := Lib.hid (fun (W : World) (hW : Below w2.heap.size w2 W) (st : Grown W) => sLinNot_no (c := c) (xs := xs) b s (hI.later (hW.trans (st.ok.mono hW.size))) hx)
    have c2 := Lib.hid (fun (W : World) (st : Grown W) => noSame st.wx)
    have c4 := Lib.hid (fun (W : World) (hW : Below w2.heap.size w2 W) (st : Grown W) => okIsS (c := c) (s := s) hx (hI.later (hW.trans (st.ok.mono hW.size))))
    go_wp2_with fail
    refine wp_region_grown (by kernel_rfl) (by kernel_rfl) ?_
    (refine quiet_with (a := ⟨w1.heap.size, 0, none⟩) (v := .slice (some ⟨q, o, none⟩) n c) (by go_simp) ?_; intro g; refine quiet_with (a := ⟨w1.heap.size, 1, none⟩) (v := .int .i64 b) (by go_simp) ?_; intro g; refine quiet_with (a := ⟨w1.heap.size, 2, none⟩) (v := .bool s) (by go_simp) ?_; intro g; refine quiet_with (a := ⟨w2.heap.size, 0, none⟩) (v := .slice none 0 0) (by go_simp) ?_; intro g; refine quiet_with (a := ⟨w2.heap.size, 1, none⟩) (v := .int .i64 0) (by go_simp) ?_; intro g; refine quiet_with (a := ⟨w2.heap.size, 2, none⟩) (v := .bool false) (by go_simp) ?_; intro g)
    repeat (go_big_quiet_step ((first | (go_at_call 33; (with_reducible exact grown_of (c1.out _ (by (repeat (first | with_reducible exact Below.refl _ _ | with_reducible assumption | (with_reducible refine below_drewN ?_ _) | (with_reducible refine Below.drew ?_) | (with_reducible refine Below.setCell ?_ (by first | omega | (simp; done) | (simp; omega)) _) | (with_reducible refine Below.alloc ?_ (by first | omega | (simp; done) | (simp; omega)) _) | refine Below.trans ?_ (Below.mono (by with_reducible assumption) (by first | omega | (simp; done) | (simp; omega)))))) _))) | (go_at_call 32; (with_reducible exact grown_of (c2.out _ _))) | (go_at_call 35; (with_reducible exact grown_of (c4.out _ (by (repeat (first | with_reducible exact Below.refl _ _ | with_reducible assumption | (with_reducible refine below_drewN ?_ _) | (with_reducible refine Below.drew ?_) | (with_reducible refine Below.setCell ?_ (by first | omega | (simp; done) | (simp; omega)) _) | (with_reducible refine Below.alloc ?_ (by first | omega | (simp; done) | (simp; omega)) _) | refine Below.trans ?_ (Below.mono (by with_reducible assumption) (by first | omega | (simp; done) | (simp; omega)))))) _))))))
    refine wpQuiet_nil ?_
    rintro w4 ⟨⟨_, hb1⟩, rfl⟩
    have hz1 := hb1.size; (try simp at hz1); have hB1 : Below w.heap.size w w4 := (by refine Below.trans ?_ (Below.mono hb1 (by first | omega | (simp; done) | (simp; omega))); (repeat (first | with_reducible exact Below.refl _ _ | with_reducible assumption | (with_reducible refine below_drewN ?_ _) | (with_reducible refine Below.drew ?_) | (with_reducible refine Below.setCell ?_ (by first | omega | (simp; done) | (simp; omega)) _) | (with_reducible refine Below.alloc ?_ (by first | omega | (simp; done) | (simp; omega)) _) | refine Below.trans ?_ (Below.mono (by with_reducible assumption) (by first | omega | (simp; done) | (simp; omega)))))); (have hC4 : Below w2.heap.size w2 w4 := by refine Below.trans ?_ (Below.mono hb1 (by first | omega | (simp; done) | (simp; omega))); (repeat (first | with_reducible exact Below.refl _ _ | with_reducible assumption | (with_reducible refine below_drewN ?_ _) | (with_reducible refine Below.drew ?_) | (with_reducible refine Below.setCell ?_ (by first | omega | (simp; done) | (simp; omega)) _) | (with_reducible refine Below.alloc ?_ (by first | omega | (simp; done) | (simp; omega)) _) | refine Below.trans ?_ (Below.mono (by with_reducible assumption) (by first | omega | (simp; done) | (simp; omega)))))); obtain ⟨kc_, fc_, lc_⟩ := keep_later (a := ⟨w1.heap.size, 0, none⟩) (v := .slice (some ⟨q, o, none⟩) n c) hb1 (by go_simp) (by go_simp); obtain ⟨kc_, fc_, lc_⟩ := keep_later (a := ⟨w1.heap.size, 1, none⟩) (v := .int .i64 b) hb1 (by go_simp) (by go_simp); obtain ⟨kc_, fc_, lc_⟩ := keep_later (a := ⟨w1.heap.size, 2, none⟩) (v := .bool s) hb1 (by go_simp) (by go_simp); obtain ⟨kc_, fc_, lc_⟩ := keep_later (a := ⟨w2.heap.size, 0, none⟩) (v := .slice none 0 0) hb1 (by go_simp) (by go_simp); obtain ⟨kc_, fc_, lc_⟩ := keep_later (a := ⟨w2.heap.size, 1, none⟩) (v := .int .i64 0) hb1 (by go_simp) (by go_simp); obtain ⟨kc_, fc_, lc_⟩ := keep_later (a := ⟨w2.heap.size, 2, none⟩) (v := .bool false) hb1 (by go_simp) (by go_simp); clear hb1
    go_wp2_with fail
    refine wp_region_grown (by kernel_rfl) (by kernel_rfl) ?_
    (refine quiet_with (a := ⟨w1.heap.size, 0, none⟩) (v := .slice (some ⟨q, o, none⟩) n c) (by go_simp) ?_; intro g; refine quiet_with (a := ⟨w1.heap.size, 1, none⟩) (v := .int .i64 b) (by go_simp) ?_; intro g; refine quiet_with (a := ⟨w1.heap.size, 2, none⟩) (v := .bool s) (by go_simp) ?_; intro g; refine quiet_with (a := ⟨w2.heap.size, 0, none⟩) (v := .slice none 0 0) (by go_simp) ?_; intro g; refine quiet_with (a := ⟨w2.heap.size, 1, none⟩) (v := .int .i64 0) (by go_simp) ?_; intro g; refine quiet_with (a := ⟨w2.heap.size, 2, none⟩) (v := .bool false) (by go_simp) ?_; intro g)
    repeat (go_big_quiet_step ((first | (go_at_call 33; (with_reducible exact grown_of (c1.out _ (by (repeat (first | with_reducible exact Below.refl _ _ | with_reducible assumption | (with_reducible refine below_drewN ?_ _) | (with_reducible refine Below.drew ?_) | (with_reducible refine Below.setCell ?_ (by first | omega | (simp; done) | (simp; omega)) _) | (with_reducible refine Below.alloc ?_ (by first | omega | (simp; done) | (simp; omega)) _) | refine Below.trans ?_ (Below.mono (by with_reducible assumption) (by first | omega | (simp; done) | (simp; omega)))))) _))) | (go_at_call 32; (with_reducible exact grown_of (c2.out _ _))))))
    refine wpQuiet_nil ?_
    rintro w5 ⟨⟨_, hb1⟩, rfl⟩
    clear c1 c2 c4
    have hz1 := hb1.size; (try simp at hz1); have hB1 : Below w.heap.size w w5 := (by refine Below.trans ?_ (Below.mono hb1 (by first | omega | (simp; done) | (simp; omega))); (repeat (first | with_reducible exact Below.refl _ _ | with_reducible assumption | (with_reducible refine below_drewN ?_ _) | (with_reducible refine Below.drew ?_) | (with_reducible refine Below.setCell ?_ (by first | omega | (simp; done) | (simp; omega)) _) | (with_reducible refine Below.alloc ?_ (by first | omega | (simp; done) | (simp; omega)) _) | refine Below.trans ?_ (Below.mono (by with_reducible assumption) (by first | omega | (simp; done) | (simp; omega)))))); clear hb1
    go_wp2
    go_ret
    exact ⟨rfl, by (repeat (first | with_reducible exact Below.refl _ _ | with_reducible assumption | (with_reducible refine below_drewN ?_ _) | (with_reducible refine Below.drew ?_) | (with_reducible refine Below.setCell ?_ (by first | omega | (simp; done) | (simp; omega)) _) | (with_reducible refine Below.alloc ?_ (by first | omega | (simp; done) | (simp; omega)) _) | refine Below.trans ?_ (Below.mono (by with_reducible assumption) (by first | omega | (simp; done) | (simp; omega)))))⟩
  have hxn : linOk (negs xs) (-b) = true := (linOk_negs xs b).trans hx
  have hsame : linSame (negs xs) (-b) (!s) (negs xs) (-b) (!s) = true := by simp [linSame]
  have HNV := Lib.hid (fun vs (hv : farRun (bothL xs b s) = .yes vs) => both_never (farRun_yes hv))
  have HOK := Lib.hid (both_ok s hx)
  have HX := Lib.hid hx
  go_wp2_with fail
  refine (iLinNot_free (xs := xs) b s (by (repeat (first | with_reducible exact hI | (with_reducible refine Ints.far ?_ (by first | omega | (simp; done) | (simp; omega)) _) | (with_reducible refine Ints.alloc ?_ _) | (with_reducible refine Ints.drewN ?_ _) | (with_reducible refine Ints.drew ?_)))) hx).mono ?_
  rintro e w2 ⟨g8, c8, rfl, ⟨hI8, hF8⟩, hc8, hg8, hb1⟩
  have hz1 := hb1.size; (try simp at hz1); have hB1 : Below w.heap.size w w2 := (by refine Below.trans ?_ (Below.mono hb1 (by first | omega | (simp; done) | (simp; omega))); (repeat (first | with_reducible exact Below.refl _ _ | with_reducible assumption | (with_reducible refine below_drewN ?_ _) | (with_reducible refine Below.drew ?_) | (with_reducible refine Below.setCell ?_ (by first | omega | (simp; done) | (simp; omega)) _) | (with_reducible refine Below.alloc ?_ (by first | omega | (simp; done) | (simp; omega)) _) | refine Below.trans ?_ (Below.mono (by with_reducible assumption) (by first | omega | (simp; done) | (simp; omega)))))); (obtain ⟨kc_, fc_, lc_⟩ := keep_later (a := ⟨w1.heap.size, 0, none⟩) (v := .slice (some ⟨q, o, none⟩) n c) hb1 (by go_simp) (by go_simp); obtain ⟨kc_, fc_, lc_⟩ := keep_later (a := ⟨w1.heap.size, 1, none⟩) (v := .int .i64 b) hb1 (by go_simp) (by go_simp); obtain ⟨kc_, fc_, lc_⟩ := keep_later (a := ⟨w1.heap.size, 2, none⟩) (v := .bool s) hb1 (by go_simp) (by go_simp); replace hI : Ints _ (some ⟨q, o, none⟩) n xs := Ints.later (by (repeat (first | with_reducible exact hI | (with_reducible refine Ints.far ?_ (by first | omega | (simp; done) | (simp; omega)) _) | (with_reducible refine Ints.alloc ?_ _) | (with_reducible refine Ints.drewN ?_ _) | (with_reducible refine Ints.drew ?_)))) hb1); clear hb1
  have hx8 := hF8.lt
  (try simp at hg8)
  go_wp2_with fail
  obtain ⟨wz, hwz⟩ : ∃ x : World, x = w := ⟨w, rfl⟩
  clear hwz
  go_region_held3 (fun w' => w'.cell? ⟨w1.heap.size, 0, none⟩ = some (.slice (some ⟨q, o, none⟩) n c) ∧ w'.cell? ⟨w1.heap.size, 1, none⟩ = some (.int .i64 b) ∧ w'.cell? ⟨w1.heap.size, 2, none⟩ = some (.bool s) ∧ w'.cell? ⟨w2.heap.size, 0, none⟩ = some (.slice (some ⟨g8, 0, none⟩) 4 c8) ∧ w'.cell? ⟨w2.heap.size, 1, none⟩ = some (.int .i64 (-b)) ∧ w'.cell? ⟨w2.heap.size, 2, none⟩ = some (.bool (!s))) (simp [go_sem, World.cell?_alloc_past, *])
    ((first
      | (go_at_call 33; refine (sLinNot_free (xs := xs) b s (by (repeat (first | with_reducible exact hI | (with_reducible refine Ints.far ?_ (by first | omega | (simp; done) | (simp; omega)) _) | (with_reducible refine Ints.alloc ?_ _) | (with_reducible refine Ints.drewN ?_ _) | (with_reducible refine Ints.drew ?_)))) hx).mono ?_; rintro e w4 ⟨g9, c9, rfl, ⟨hI9, hF9⟩, hc9, hg9, hb1⟩; have hz1 := hb1.size; (try simp at hz1); have hB1 : Below w.heap.size w w4 := (by refine Below.trans ?_ (Below.mono hb1 (by first | omega | (simp; done) | (simp; omega))); (repeat (first | with_reducible exact Below.refl _ _ | with_reducible assumption | (with_reducible refine below_drewN ?_ _) | (with_reducible refine Below.drew ?_) | (with_reducible refine Below.setCell ?_ (by first | omega | (simp; done) | (simp; omega)) _) | (with_reducible refine Below.alloc ?_ (by first | omega | (simp; done) | (simp; omega)) _) | refine Below.trans ?_ (Below.mono (by with_reducible assumption) (by first | omega | (simp; done) | (simp; omega)))))); obtain ⟨kc_, fc_, lc_⟩ := keep_later (a := ⟨w1.heap.size, 0, none⟩) (v := .slice (some ⟨q, o, none⟩) n c) hb1 (by go_simp) (by go_simp); obtain ⟨kc_, fc_, lc_⟩ := keep_later (a := ⟨w1.heap.size, 1, none⟩) (v := .int .i64 b) hb1 (by go_simp) (by go_simp); obtain ⟨kc_, fc_, lc_⟩ := keep_later (a := ⟨w1.heap.size, 2, none⟩) (v := .bool s) hb1 (by go_simp) (by go_simp); obtain ⟨kc_, fc_, lc_⟩ := keep_later (a := ⟨w2.heap.size, 0, none⟩) (v := .slice (some ⟨g8, 0, none⟩) 4 c8) hb1 (by go_simp) (by go_simp); obtain ⟨kc_, fc_, lc_⟩ := keep_later (a := ⟨w2.heap.size, 1, none⟩) (v := .int .i64 (-b)) hb1 (by go_simp) (by go_simp); obtain ⟨kc_, fc_, lc_⟩ := keep_later (a := ⟨w2.heap.size, 2, none⟩) (v := .bool (!s)) hb1 (by go_simp) (by go_simp); replace hI : Ints _ (some ⟨q, o, none⟩) n xs := Ints.later (by (repeat (first | with_reducible exact hI | (with_reducible refine Ints.far ?_ (by first | omega | (simp; done) | (simp; omega)) _) | (with_reducible refine Ints.alloc ?_ _) | (with_reducible refine Ints.drewN ?_ _) | (with_reducible refine Ints.drew ?_)))) hb1; replace hI8 : Ints _ (some ⟨g8, 0, none⟩) 4 (negs xs) := Ints.later (by (repeat (first | with_reducible exact hI8 | (with_reducible refine Ints.far ?_ (by first | omega | (simp; done) | (simp; omega)) _) | (with_reducible refine Ints.alloc ?_ _) | (with_reducible refine Ints.drewN ?_ _) | (with_reducible refine Ints.drew ?_)))) hb1; clear hb1)
      | (go_at_call 32; refine (iLinSame_any (xs := negs xs) (ys := negs xs) (-b) (-b) (!s) (!s) (by (repeat (first | with_reducible exact hI8 | (with_reducible refine Ints.far ?_ (by first | omega | (simp; done) | (simp; omega)) _) | (with_reducible refine Ints.alloc ?_ _) | (with_reducible refine Ints.drewN ?_ _) | (with_reducible refine Ints.drew ?_)))) (by (repeat (first | with_reducible exact hI9 | (with_reducible refine Ints.far ?_ (by first | omega | (simp; done) | (simp; omega)) _) | (with_reducible refine Ints.alloc ?_ _) | (with_reducible refine Ints.drewN ?_ _) | (with_reducible refine Ints.drew ?_))))).mono ?_; rw [hsame]; rintro e w5 ⟨rfl, hb1⟩; have hz1 := hb1.size; (try simp at hz1); have hB1 : Below w.heap.size w w5 := (by refine Below.trans ?_ (Below.mono hb1 (by first | omega | (simp; done) | (simp; omega))); (repeat (first | with_reducible exact Below.refl _ _ | with_reducible assumption | (with_reducible refine below_drewN ?_ _) | (with_reducible refine Below.drew ?_) | (with_reducible refine Below.setCell ?_ (by first | omega | (simp; done) | (simp; omega)) _) | (with_reducible refine Below.alloc ?_ (by first | omega | (simp; done) | (simp; omega)) _) | refine Below.trans ?_ (Below.mono (by with_reducible assumption) (by first | omega | (simp; done) | (simp; omega)))))); obtain ⟨kc_, fc_, lc_⟩ := keep_later (a := ⟨w1.heap.size, 0, none⟩) (v := .slice (some ⟨q, o, none⟩) n c) hb1 (by go_simp) (by go_simp); obtain ⟨kc_, fc_, lc_⟩ := keep_later (a := ⟨w1.heap.size, 1, none⟩) (v := .int .i64 b) hb1 (by go_simp) (by go_simp); obtain ⟨kc_, fc_, lc_⟩ := keep_later (a := ⟨w1.heap.size, 2, none⟩) (v := .bool s) hb1 (by go_simp) (by go_simp); obtain ⟨kc_, fc_, lc_⟩ := keep_later (a := ⟨w2.heap.size, 0, none⟩) (v := .slice (some ⟨g8, 0, none⟩) 4 c8) hb1 (by go_simp) (by go_simp); obtain ⟨kc_, fc_, lc_⟩ := keep_later (a := ⟨w2.heap.size, 1, none⟩) (v := .int .i64 (-b)) hb1 (by go_simp) (by go_simp); obtain ⟨kc_, fc_, lc_⟩ := keep_later (a := ⟨w2.heap.size, 2, none⟩) (v := .bool (!s)) hb1 (by go_simp) (by go_simp); replace hI : Ints _ (some ⟨q, o, none⟩) n xs := Ints.later (by (repeat (first | with_reducible exact hI | (with_reducible refine Ints.far ?_ (by first | omega | (simp; done) | (simp; omega)) _) | (with_reducible refine Ints.alloc ?_ _) | (with_reducible refine Ints.drewN ?_ _) | (with_reducible refine Ints.drew ?_)))) hb1; replace hI8 : Ints _ (some ⟨g8, 0, none⟩) 4 (negs xs) := Ints.later (by (repeat (first | with_reducible exact hI8 | (with_reducible refine Ints.far ?_ (by first | omega | (simp; done) | (simp; omega)) _) | (with_reducible refine Ints.alloc ?_ _) | (with_reducible refine Ints.drewN ?_ _) | (with_reducible refine Ints.drew ?_)))) hb1; clear hb1)
      | (go_at_call 35; refine (okIsS (s := s) HX.out (by (repeat (first | with_reducible exact hI | (with_reducible refine Ints.far ?_ (by first | omega | (simp; done) | (simp; omega)) _) | (with_reducible refine Ints.alloc ?_ _) | (with_reducible refine Ints.drewN ?_ _) | (with_reducible refine Ints.drew ?_))))).mono ?_; rintro e w7 ⟨rfl, hb1⟩; have hz1 := hb1.size; (try simp at hz1); have hB1 : Below w.heap.size w w7 := (by refine Below.trans ?_ (Below.mono hb1 (by first | omega | (simp; done) | (simp; omega))); (repeat (first | with_reducible exact Below.refl _ _ | with_reducible assumption | (with_reducible refine below_drewN ?_ _) | (with_reducible refine Below.drew ?_) | (with_reducible refine Below.setCell ?_ (by first | omega | (simp; done) | (simp; omega)) _) | (with_reducible refine Below.alloc ?_ (by first | omega | (simp; done) | (simp; omega)) _) | refine Below.trans ?_ (Below.mono (by with_reducible assumption) (by first | omega | (simp; done) | (simp; omega)))))); obtain ⟨kc_, fc_, lc_⟩ := keep_later (a := ⟨w1.heap.size, 0, none⟩) (v := .slice (some ⟨q, o, none⟩) n c) hb1 (by go_simp) (by go_simp); obtain ⟨kc_, fc_, lc_⟩ := keep_later (a := ⟨w1.heap.size, 1, none⟩) (v := .int .i64 b) hb1 (by go_simp) (by go_simp); obtain ⟨kc_, fc_, lc_⟩ := keep_later (a := ⟨w1.heap.size, 2, none⟩) (v := .bool s) hb1 (by go_simp) (by go_simp); obtain ⟨kc_, fc_, lc_⟩ := keep_later (a := ⟨w2.heap.size, 0, none⟩) (v := .slice (some ⟨g8, 0, none⟩) 4 c8) hb1 (by go_simp) (by go_simp); obtain ⟨kc_, fc_, lc_⟩ := keep_later (a := ⟨w2.heap.size, 1, none⟩) (v := .int .i64 (-b)) hb1 (by go_simp) (by go_simp); obtain ⟨kc_, fc_, lc_⟩ := keep_later (a := ⟨w2.heap.size, 2, none⟩) (v := .bool (!s)) hb1 (by go_simp) (by go_simp); replace hI : Ints _ (some ⟨q, o, none⟩) n xs := Ints.later (by (repeat (first | with_reducible exact hI | (with_reducible refine Ints.far ?_ (by first | omega | (simp; done) | (simp; omega)) _) | (with_reducible refine Ints.alloc ?_ _) | (with_reducible refine Ints.drewN ?_ _) | (with_reducible refine Ints.drew ?_)))) hb1; replace hI8 : Ints _ (some ⟨g8, 0, none⟩) 4 (negs xs) := Ints.later (by (repeat (first | with_reducible exact hI8 | (with_reducible refine Ints.far ?_ (by first | omega | (simp; done) | (simp; omega)) _) | (with_reducible refine Ints.alloc ?_ _) | (with_reducible refine Ints.drewN ?_ _) | (with_reducible refine Ints.drew ?_)))) hb1; clear hb1)))
  all_goals
    go_wp2_with fail
    refine (iFarRun_any (ls := bothL xs b s) (lins_two (by first | omega | (simp; done) | (simp; omega)) rfl (by (repeat (first | with_reducible exact hI | (with_reducible refine Ints.far ?_ (by first | omega | (simp; done) | (simp; omega)) _) | (with_reducible refine Ints.alloc ?_ _) | (with_reducible refine Ints.drewN ?_ _) | (with_reducible refine Ints.drew ?_)))) (by (repeat (first | with_reducible exact hI8 | (with_reducible refine Ints.far ?_ (by first | omega | (simp; done) | (simp; omega)) _) | (with_reducible refine Ints.alloc ?_ _) | (with_reducible refine Ints.drewN ?_ _) | (with_reducible refine Ints.drew ?_)))))).mono ?_
    rintro e w8 hrb
    obtain ⟨A1, n1, k1, B1, m1, d1, code, rfl, hcode, hb1⟩ := far_codes HNV.out hrb
    have hL8 := Lib.hid (Lins.later (lins_two (t := 33) (c := c) (c' := c8) (b := b) (b' := -b) (s := s) (s' := !s) rfl rfl (by (repeat (first | with_reducible exact hI | (with_reducible refine Ints.far ?_ (by first | omega | (simp; done) | (simp; omega)) _) | (with_reducible refine Ints.alloc ?_ _) | (with_reducible refine Ints.drewN ?_ _) | (with_reducible refine Ints.drew ?_)))) (by (repeat (first | with_reducible exact hI8 | (with_reducible refine Ints.far ?_ (by first | omega | (simp; done) | (simp; omega)) _) | (with_reducible refine Ints.alloc ?_ _) | (with_reducible refine Ints.drewN ?_ _) | (with_reducible refine Ints.drew ?_))))) hb1)
    have hz1 := hb1.size; (try simp at hz1); have hB1 : Below w.heap.size w w8 := (by refine Below.trans ?_ (Below.mono hb1 (by first | omega | (simp; done) | (simp; omega))); (repeat (first | with_reducible exact Below.refl _ _ | with_reducible assumption | (with_reducible refine below_drewN ?_ _) | (with_reducible refine Below.drew ?_) | (with_reducible refine Below.setCell ?_ (by first | omega | (simp; done) | (simp; omega)) _) | (with_reducible refine Below.alloc ?_ (by first | omega | (simp; done) | (simp; omega)) _) | refine Below.trans ?_ (Below.mono (by with_reducible assumption) (by first | omega | (simp; done) | (simp; omega))))))
    clear hb1 hrb
    go_wp2_with fail
    refine (iFarOk_any (ls := bothL xs b s) (ts := [1, 1]) (Lins.alloc hL8.out _) (ints_two w8 1 1 (by unfold J64; omega) (by unfold J64; omega) (by first | omega | (simp; done) | (simp; omega)) _)).mono ?_
    rw [HOK.out]
    rintro e w9 ⟨rfl, hb1⟩
    have hz1 := hb1.size; (try simp at hz1); have hB1 : Below w.heap.size w w9 := (by refine Below.trans ?_ (Below.mono hb1 (by first | omega | (simp; done) | (simp; omega))); (repeat (first | with_reducible exact Below.refl _ _ | with_reducible assumption | (with_reducible refine below_drewN ?_ _) | (with_reducible refine Below.drew ?_) | (with_reducible refine Below.setCell ?_ (by first | omega | (simp; done) | (simp; omega)) _) | (with_reducible refine Below.alloc ?_ (by first | omega | (simp; done) | (simp; omega)) _) | refine Below.trans ?_ (Below.mono (by with_reducible assumption) (by first | omega | (simp; done) | (simp; omega))))))
    clear hb1
    go_wp2
    go_ret
    exact ⟨by simp, by (repeat (first | with_reducible exact Below.refl _ _ | with_reducible assumption | (with_reducible refine below_drewN ?_ _) | (with_reducible refine Below.drew ?_) | (with_reducible refine Below.setCell ?_ (by first | omega | (simp; done) | (simp; omega)) _) | (with_reducible refine Below.alloc ?_ (by first | omega | (simp; done) | (simp; omega)) _) | refine Below.trans ?_ (Below.mono (by with_reducible assumption) (by first | omega | (simp; done) | (simp; omega)))))⟩

theorem fnFarBoth_open {H : Type} {enc : TypeId × Value → H} {W : World} {base : Nat} {args : Array Value} {ds : List (DataW H)} {p : List MemPlace}
    (hval : ∀ (j : Nat) t v, #[40][j]? = some t → args[j]? = some v → Value.okWide Try.prog W .any base t v)
    (hA : DataW.TrodAll enc Try.prog W 0 (fun _ => true) true #[40].toList args.toList ds p) :
    Calls Try.prog 12 args W fun e w' => e = .returned (.bool true) ∧ Below W.heap.size W w' := by
  obtain ⟨v0, d0, rfl, rfl, h0⟩ := trodAll_one hA
  obtain ⟨A, cap, bs, rfl, hc⟩ := open_bytes (hval 0 _ v0 rfl rfl) h0
  exact fnFarBoth_walk hc
set_option maxRecDepth 100000 in
theorem fnFarBoth_lifted (os : Os) (started : os.Started) (H : Type) (enc : TypeId × Value → H) :
    ReturnsInHanded {} Try.checked os 12 .any (Rows.fnFarBothSpec.pre6 enc Try.prog Try.f12 Rows.fnFarBothRow.domain false) (Rows.fnFarBothSpec.post enc Try.prog Try.f12 false true false false) := by
  refine returnsInHanded_of_change (C := Try.checked) own started (by kernel_rfl) Try.func12
    (ChangeSpec.witness6 (enc := enc) (C := Try.checked) false ⟨#[], #[.slice none 0 0], []⟩ 8 (by kernel_rfl) (by kernel_rfl) (by kernel_rfl) (by kernel_rfl)) ?_
  intro W base args ds gs before hval0 hW hcnd _
  have hval : ∀ (j : Nat) t v, Try.f12.params[j]? = some t → args[j]? = some v → Value.okWide Try.prog W .any base t v := hval0
  refine law_post hW rfl rfl ?_ ?_ ?_
  · have hr : (Try.f12.params.toList.all fun t => Try.prog.readableRec t && decide (t < Try.prog.types.size)) = true := by kernel_rfl
    intro t ht
    have := List.all_eq_true.1 hr t ht
    simpa using this
  · intro ds hl
    match ds, hl with
    | [d], _ => rfl
  · obtain ⟨p, q, hA0, _⟩ := hW
    have hA : DataW.TrodAll enc Try.prog W 0 (fun _ => true) true Try.f12.params.toList args.toList ds p := hA0
    clear hA0 hval0
    rw [Try.params12] at hA hval
    exact fnFarBoth_open hval hA

theorem fnFarBoth_facts : joinedFacts Try.prog 12 Try.f12 Rows.fnFarBothSpec Rows.fnFarBothRow = true :=
  joined_of _ _ _ _ _ (by kernel_rfl) laidOut mapsRowed_ok (by kernel_rfl) (by kernel_rfl) (by kernel_rfl) stops_eq (by kernel_rfl) stopKnobs_eq (by kernel_rfl) (by kernel_rfl) (by kernel_rfl) (by kernel_rfl) (by kernel_rfl) (by kernel_rfl) (by kernel_rfl) (by kernel_rfl) (by kernel_rfl) (by kernel_rfl) (by kernel_rfl) (by kernel_rfl) (by kernel_rfl) (plainKeys_eq _ rfl) (by kernel_rfl) heard_ok mayEnter_ok (lifted_eq _ rfl) (make_eq _ rfl) (by kernel_rfl) (by kernel_rfl) (by kernel_rfl) (by kernel_rfl)

theorem fnFarBoth_holds : Rows.FnFarBothSaid :=
  OpenClaim.holds_of_wide 12 Try.f12 rfl rfl rfl rfl rfl rfl rfl ⟨rfl, rfl, rfl, rfl, rfl⟩ rfl rfl rfl rfl rfl (by kernel_rfl) Try.func12 fnFarBoth_facts
    (of_decide_eq_true (by kernel_rfl)) (by unfold Func.isWrapper; first | (rw [if_pos (by decide +kernel)]; kernel_rfl) | (rw [if_neg (by decide +kernel)]; exact ⟨rfl, rfl⟩))
    (fun os started H enc _ => fnFarBoth_lifted os started H enc)
#print axioms fnFarBoth_holds
end Go.Proofs.Ythamgdinhlnldaa
