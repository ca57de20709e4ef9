/- Contracts of the functions on fractions. -/
import Derived.Test.YtccjbipmlpnhkaaA
import Derived.RegionTactic
import Derived.ChangeAlike
import Derived.Deep.DeepCutAuto
namespace Go.Proofs.Ytccjbipmlpnhkaa
set_option maxRecDepth 100000
open Go.RowKit
set_option linter.unusedSimpArgs false
set_option linter.unusedVariables false

theorem keep_later {w wx : World} {a : Addr} {v : Value} (hb : Below w.heap.size w wx) (h : w.cell? a = some v) (hf : w.frozen? a = false) : wx.cell? a = some v ∧ wx.frozen? a = false ∧ a.block < wx.heap.size :=
  ⟨(hb.cell (World.block_lt_of_cell? _ _ h)).trans h, (hb.frozen (World.block_lt_of_cell? _ _ h)).trans hf, Nat.lt_of_lt_of_le (World.block_lt_of_cell? _ _ h) hb.size⟩
theorem with_keep {G : Prop} {w wx : World} {a : Addr} {v : Value} (hb : Below w.heap.size w wx) (h : w.cell? a = some v) (hf : w.frozen? a = false) (k : wx.cell? a = some v → wx.frozen? a = false → a.block < wx.heap.size → G) : G :=
  k (keep_later hb h hf).1 (keep_later hb h hf).2.1 (keep_later hb h hf).2.2
theorem with_new {G : Prop} {wp wx : World} {v0 v1 : Value} {t : TypeId} (hb : Below (wp.alloc (.cells #[v0, v1] t)).heap.size (wp.alloc (.cells #[v0, v1] t)) wx)
    (k : wx.cell? ⟨wp.heap.size, 0, none⟩ = some v0 → wx.frozen? ⟨wp.heap.size, 0, none⟩ = false → wx.cell? ⟨wp.heap.size, 1, none⟩ = some v1 → wx.frozen? ⟨wp.heap.size, 1, none⟩ = false → wp.heap.size < wx.heap.size → G) : G := by
  have h0 := keep_later (a := ⟨wp.heap.size, 0, none⟩) (v := v0) hb (by simp [go_sem]) (by simp [go_sem])
  have h1 := keep_later (a := ⟨wp.heap.size, 1, none⟩) (v := v1) hb (by simp [go_sem]) (by simp [go_sem])
  exact k h0.1 h0.2.1 h1.1 h1.2.1 h0.2.2
theorem with_newd {G : Prop} {wp wx : World} {v0 v1 : Value} {t : TypeId} (hb : Below (wp.alloc (.cells #[v0, v1] t)).drew.heap.size (wp.alloc (.cells #[v0, v1] t)).drew wx)
    (k : wx.cell? ⟨wp.heap.size, 0, none⟩ = some v0 → wx.frozen? ⟨wp.heap.size, 0, none⟩ = false → wx.cell? ⟨wp.heap.size, 1, none⟩ = some v1 → wx.frozen? ⟨wp.heap.size, 1, none⟩ = false → wp.heap.size < wx.heap.size → G) : G :=
  with_new (wp := wp) ⟨hb.os, hb.tape, hb.output, hb.size, hb.block⟩ k
/-- Block g holds the fraction x / y, and may be written. -/
structure Lv (w : World) (g : Nat) (x y : Int) : Prop where
  c0 : w.cell? ⟨g, 0, none⟩ = some (.int .i64 x)
  c1 : w.cell? ⟨g, 1, none⟩ = some (.int .i64 y)
  f0 : w.frozen? ⟨g, 0, none⟩ = false
  f1 : w.frozen? ⟨g, 1, none⟩ = false
  lt : g < w.heap.size
theorem tdiv_bd (n : Int) (g : Nat) (K : Int) (h : -K ≤ n) (h' : n ≤ K) : -K ≤ n.tdiv g ∧ n.tdiv g ≤ K := by
  have h1 := Int.natAbs_tdiv_le_natAbs n g
  omega
theorem mk_ok {n d X Y : Int} (hX : n.tdiv (Int.gcd n d) = X) (hY : d.tdiv (Int.gcd n d) = Y) (h : ratOk X Y = true) : mk n d = (X, Y, true) := by
  unfold mk; rw [hX, hY, if_pos h]
theorem mk_no {n d X Y : Int} (hX : n.tdiv (Int.gcd n d) = X) (hY : d.tdiv (Int.gcd n d) = Y) (h : ratOk X Y = false) : mk n d = (0, 0, false) := by
  unfold mk; rw [hX, hY, if_neg (by rw [h]; simp)]


theorem no3 {x y : Int} {b : Bool} (h : ((0 : Int), (0 : Int), false) = (x, y, b)) : x = 0 ∧ y = 0 ∧ b = false := by
  simp only [Prod.mk.injEq] at h; obtain ⟨rfl, rfl, rfl⟩ := h; exact ⟨rfl, rfl, rfl⟩
theorem yes3 {X Y x y : Int} {b : Bool} (h : (X, Y, true) = (x, y, b)) : x = X ∧ y = Y ∧ b = true := by
  simp only [Prod.mk.injEq] at h; obtain ⟨rfl, rfl, rfl⟩ := h; exact ⟨rfl, rfl, rfl⟩


set_option maxHeartbeats 400000 in
theorem ratOf_any (n d : Int) (x y : Int) (b : Bool) (h : Hid (mkz n d = (x, y, b))) (hn : -4000000000000000000 ≤ n) (hn' : n ≤ 4000000000000000000) (hd : -4000000000000000000 ≤ d) (hd' : d ≤ 4000000000000000000) (w : World) :
    Calls Try.prog 112 #[.int .i64 n, .int .i64 d] w fun e w' => e = .returned (.tuple #[.agg #[.int .i64 x, .int .i64 y], .bool b]) ∧ Below w.heap.size w w' := by
  by_cases h0 : d = 0
  · subst h0
    have hh := h.out
    simp only [mkz, if_true] at hh
    obtain ⟨rfl, rfl, rfl⟩ := no3 hh
    clear h hh
    go_enter Try.func112, Try.ntmps112
    go_wp2
    refine bodyPost_ret (v := .tuple #[.agg #[.int .i64 0, .int .i64 0], .bool false]) (by simp only [results, Try.results112]; go_simp) rfl ⟨rfl, ?_⟩
    (repeat (first | with_reducible exact Below.refl _ _ | with_reducible assumption | (with_reducible refine below_drewN ?_ _) | (with_reducible refine Below.drew ?_) | (with_reducible refine Below.setCell ?_ (by first | omega | (simp; done) | (simp; omega)) _) | (with_reducible refine Below.alloc ?_ (by first | omega | (simp; done) | (simp; omega)) _) | refine Below.trans ?_ (Below.mono (by with_reducible assumption) (by first | omega | (simp; done) | (simp; omega)))))
  have hg : 0 < Int.gcd n d := gcd_pos_of h0
  have q1 := tdiv_bd n (Int.gcd n d) _ hn hn'
  have q2 := tdiv_bd d (Int.gcd n d) _ hd hd'
  by_cases h1 : d < 0
  · obtain ⟨X, hX⟩ : ∃ X, (-n).tdiv (Int.gcd (-n) (-d)) = X := ⟨_, rfl⟩
    obtain ⟨Y, hY⟩ : ∃ Y, (-d).tdiv (Int.gcd (-n) (-d)) = Y := ⟨_, rfl⟩
    have e1 : wrap64 (-(n.tdiv (Int.gcd n d))) = X := by rw [IntWalk.wrap64_in _ (by omega), ← hX]; simp
    have e2 : wrap64 (-(d.tdiv (Int.gcd n d))) = Y := by rw [IntWalk.wrap64_in _ (by omega), ← hY]; simp
    have hm : mkz n d = mk (-n) (-d) := by unfold mkz; rw [if_neg h0, if_pos h1]
    have hh := h.out
    rw [hm] at hh
    cases hk : ratOk X Y
    · rw [mk_no hX hY hk] at hh
      obtain ⟨rfl, rfl, rfl⟩ := no3 hh
      clear h hh hX hY hm q1 q2
      go_enter Try.func112, Try.ntmps112
      go_wp2_with (first | (go_at_call 106; refine (gcd_any _ _ (by omega) (by omega) (by omega) (by omega) _).mono ?_; rintro e w' ⟨rfl, m, rfl⟩))
      go_region
      go_wp2_with (first | (go_at_call 91; refine (iRatOk_any _ _ _).mono ?_; rintro e w1 ⟨rfl, hb1⟩; have hz1 := hb1.size; (try simp at hz1); have hB1 : Below w.heap.size w w1 := (by refine Below.trans ?_ (Below.mono hb1 (by first | omega | (simp; done) | (simp; omega))); (repeat (first | with_reducible exact Below.refl _ _ | with_reducible assumption | (with_reducible refine below_drewN ?_ _) | (with_reducible refine Below.drew ?_) | (with_reducible refine Below.setCell ?_ (by first | omega | (simp; done) | (simp; omega)) _) | (with_reducible refine Below.alloc ?_ (by first | omega | (simp; done) | (simp; omega)) _) | refine Below.trans ?_ (Below.mono (by with_reducible assumption) (by first | omega | (simp; done) | (simp; omega)))))); obtain ⟨kc_, fc_, lc_⟩ := keep_later (a := ⟨w.heap.size, 0, none⟩) (v := .int .i64 0) hb1 (by go_simp) (by go_simp); obtain ⟨kc_, fc_, lc_⟩ := keep_later (a := ⟨w.heap.size, 1, none⟩) (v := .int .i64 0) hb1 (by go_simp) (by go_simp); obtain ⟨kc_, fc_, lc_⟩ := keep_later (a := ⟨w.heap.size+1, 0, none⟩) (v := .int .i64 X) hb1 (by go_simp) (by go_simp); obtain ⟨kc_, fc_, lc_⟩ := keep_later (a := ⟨w.heap.size+1, 1, none⟩) (v := .int .i64 Y) hb1 (by go_simp) (by go_simp); clear hb1))
      refine bodyPost_ret (v := .tuple #[.agg #[.int .i64 0, .int .i64 0], .bool false]) (by simp only [results, Try.results112]; go_simp) rfl ⟨rfl, ?_⟩
      (repeat (first | with_reducible exact Below.refl _ _ | with_reducible assumption | (with_reducible refine below_drewN ?_ _) | (with_reducible refine Below.drew ?_) | (with_reducible refine Below.setCell ?_ (by first | omega | (simp; done) | (simp; omega)) _) | (with_reducible refine Below.alloc ?_ (by first | omega | (simp; done) | (simp; omega)) _) | refine Below.trans ?_ (Below.mono (by with_reducible assumption) (by first | omega | (simp; done) | (simp; omega)))))
    · rw [mk_ok hX hY hk] at hh
      obtain ⟨rfl, rfl, rfl⟩ := yes3 hh
      clear h hh hX hY hm q1 q2
      go_enter Try.func112, Try.ntmps112
      go_wp2_with (first | (go_at_call 106; refine (gcd_any _ _ (by omega) (by omega) (by omega) (by omega) _).mono ?_; rintro e w' ⟨rfl, m, rfl⟩))
      go_region
      go_wp2_with (first | (go_at_call 91; refine (iRatOk_any _ _ _).mono ?_; rintro e w1 ⟨rfl, hb1⟩; have hz1 := hb1.size; (try simp at hz1); have hB1 : Below w.heap.size w w1 := (by refine Below.trans ?_ (Below.mono hb1 (by first | omega | (simp; done) | (simp; omega))); (repeat (first | with_reducible exact Below.refl _ _ | with_reducible assumption | (with_reducible refine below_drewN ?_ _) | (with_reducible refine Below.drew ?_) | (with_reducible refine Below.setCell ?_ (by first | omega | (simp; done) | (simp; omega)) _) | (with_reducible refine Below.alloc ?_ (by first | omega | (simp; done) | (simp; omega)) _) | refine Below.trans ?_ (Below.mono (by with_reducible assumption) (by first | omega | (simp; done) | (simp; omega)))))); obtain ⟨kc_, fc_, lc_⟩ := keep_later (a := ⟨w.heap.size, 0, none⟩) (v := .int .i64 0) hb1 (by go_simp) (by go_simp); obtain ⟨kc_, fc_, lc_⟩ := keep_later (a := ⟨w.heap.size, 1, none⟩) (v := .int .i64 0) hb1 (by go_simp) (by go_simp); obtain ⟨kc_, fc_, lc_⟩ := keep_later (a := ⟨w.heap.size+1, 0, none⟩) (v := .int .i64 x) hb1 (by go_simp) (by go_simp); obtain ⟨kc_, fc_, lc_⟩ := keep_later (a := ⟨w.heap.size+1, 1, none⟩) (v := .int .i64 y) hb1 (by go_simp) (by go_simp); clear hb1))
      refine bodyPost_ret (v := .tuple #[.agg #[.int .i64 x, .int .i64 y], .bool true]) (by simp only [results, Try.results112]; go_simp) rfl ⟨rfl, ?_⟩
      (repeat (first | with_reducible exact Below.refl _ _ | with_reducible assumption | (with_reducible refine below_drewN ?_ _) | (with_reducible refine Below.drew ?_) | (with_reducible refine Below.setCell ?_ (by first | omega | (simp; done) | (simp; omega)) _) | (with_reducible refine Below.alloc ?_ (by first | omega | (simp; done) | (simp; omega)) _) | refine Below.trans ?_ (Below.mono (by with_reducible assumption) (by first | omega | (simp; done) | (simp; omega)))))
  · obtain ⟨X, hX⟩ : ∃ X, n.tdiv (Int.gcd n d) = X := ⟨_, rfl⟩
    obtain ⟨Y, hY⟩ : ∃ Y, d.tdiv (Int.gcd n d) = Y := ⟨_, rfl⟩
    have e1 : n.tdiv (Int.gcd n d) = X := hX
    have e2 : d / (Int.gcd n d : Int) = Y := by rw [← hY, Int.tdiv_eq_ediv_of_nonneg (by omega)]
    have e3 : wrap64 X = X := by rw [IntWalk.wrap64_in _ (by omega)]
    have hm : mkz n d = mk n d := by unfold mkz; rw [if_neg h0, if_neg h1]
    have hh := h.out
    rw [hm] at hh
    cases hk : ratOk X Y
    · rw [mk_no hX hY hk] at hh
      obtain ⟨rfl, rfl, rfl⟩ := no3 hh
      clear h hh hX hY hm q1 q2
      go_enter Try.func112, Try.ntmps112
      go_wp2_with (first | (go_at_call 106; refine (gcd_any _ _ (by omega) (by omega) (by omega) (by omega) _).mono ?_; rintro e w' ⟨rfl, m, rfl⟩))
      go_region
      go_wp2_with (first | (go_at_call 91; refine (iRatOk_any _ _ _).mono ?_; rintro e w1 ⟨rfl, hb1⟩; have hz1 := hb1.size; (try simp at hz1); have hB1 : Below w.heap.size w w1 := (by refine Below.trans ?_ (Below.mono hb1 (by first | omega | (simp; done) | (simp; omega))); (repeat (first | with_reducible exact Below.refl _ _ | with_reducible assumption | (with_reducible refine below_drewN ?_ _) | (with_reducible refine Below.drew ?_) | (with_reducible refine Below.setCell ?_ (by first | omega | (simp; done) | (simp; omega)) _) | (with_reducible refine Below.alloc ?_ (by first | omega | (simp; done) | (simp; omega)) _) | refine Below.trans ?_ (Below.mono (by with_reducible assumption) (by first | omega | (simp; done) | (simp; omega)))))); obtain ⟨kc_, fc_, lc_⟩ := keep_later (a := ⟨w.heap.size, 0, none⟩) (v := .int .i64 0) hb1 (by go_simp) (by go_simp); obtain ⟨kc_, fc_, lc_⟩ := keep_later (a := ⟨w.heap.size, 1, none⟩) (v := .int .i64 0) hb1 (by go_simp) (by go_simp); obtain ⟨kc_, fc_, lc_⟩ := keep_later (a := ⟨w.heap.size+1, 0, none⟩) (v := .int .i64 X) hb1 (by go_simp) (by go_simp); obtain ⟨kc_, fc_, lc_⟩ := keep_later (a := ⟨w.heap.size+1, 1, none⟩) (v := .int .i64 Y) hb1 (by go_simp) (by go_simp); clear hb1))
      refine bodyPost_ret (v := .tuple #[.agg #[.int .i64 0, .int .i64 0], .bool false]) (by simp only [results, Try.results112]; go_simp) rfl ⟨rfl, ?_⟩
      (repeat (first | with_reducible exact Below.refl _ _ | with_reducible assumption | (with_reducible refine below_drewN ?_ _) | (with_reducible refine Below.drew ?_) | (with_reducible refine Below.setCell ?_ (by first | omega | (simp; done) | (simp; omega)) _) | (with_reducible refine Below.alloc ?_ (by first | omega | (simp; done) | (simp; omega)) _) | refine Below.trans ?_ (Below.mono (by with_reducible assumption) (by first | omega | (simp; done) | (simp; omega)))))
    · rw [mk_ok hX hY hk] at hh
      obtain ⟨rfl, rfl, rfl⟩ := yes3 hh
      clear h hh hX hY hm q1 q2
      go_enter Try.func112, Try.ntmps112
      go_wp2_with (first | (go_at_call 106; refine (gcd_any _ _ (by omega) (by omega) (by omega) (by omega) _).mono ?_; rintro e w' ⟨rfl, m, rfl⟩))
      go_region
      go_wp2_with (first | (go_at_call 91; refine (iRatOk_any _ _ _).mono ?_; rintro e w1 ⟨rfl, hb1⟩; have hz1 := hb1.size; (try simp at hz1); have hB1 : Below w.heap.size w w1 := (by refine Below.trans ?_ (Below.mono hb1 (by first | omega | (simp; done) | (simp; omega))); (repeat (first | with_reducible exact Below.refl _ _ | with_reducible assumption | (with_reducible refine below_drewN ?_ _) | (with_reducible refine Below.drew ?_) | (with_reducible refine Below.setCell ?_ (by first | omega | (simp; done) | (simp; omega)) _) | (with_reducible refine Below.alloc ?_ (by first | omega | (simp; done) | (simp; omega)) _) | refine Below.trans ?_ (Below.mono (by with_reducible assumption) (by first | omega | (simp; done) | (simp; omega)))))); obtain ⟨kc_, fc_, lc_⟩ := keep_later (a := ⟨w.heap.size, 0, none⟩) (v := .int .i64 0) hb1 (by go_simp) (by go_simp); obtain ⟨kc_, fc_, lc_⟩ := keep_later (a := ⟨w.heap.size, 1, none⟩) (v := .int .i64 0) hb1 (by go_simp) (by go_simp); obtain ⟨kc_, fc_, lc_⟩ := keep_later (a := ⟨w.heap.size+1, 0, none⟩) (v := .int .i64 x) hb1 (by go_simp) (by go_simp); obtain ⟨kc_, fc_, lc_⟩ := keep_later (a := ⟨w.heap.size+1, 1, none⟩) (v := .int .i64 y) hb1 (by go_simp) (by go_simp); clear hb1))
      refine bodyPost_ret (v := .tuple #[.agg #[.int .i64 x, .int .i64 y], .bool true]) (by simp only [results, Try.results112]; go_simp) rfl ⟨rfl, ?_⟩
      (repeat (first | with_reducible exact Below.refl _ _ | with_reducible assumption | (with_reducible refine below_drewN ?_ _) | (with_reducible refine Below.drew ?_) | (with_reducible refine Below.setCell ?_ (by first | omega | (simp; done) | (simp; omega)) _) | (with_reducible refine Below.alloc ?_ (by first | omega | (simp; done) | (simp; omega)) _) | refine Below.trans ?_ (Below.mono (by with_reducible assumption) (by first | omega | (simp; done) | (simp; omega)))))


theorem iRatOf_any (n d : Int) (x y : Int) (b : Bool) (h : Hid (ofR n d = (x, y, b))) (w : World) :
    Calls Try.prog 111 #[.int .i64 n, .int .i64 d] w fun e w' => e = .returned (.tuple #[.agg #[.int .i64 x, .int .i64 y], .bool b]) ∧ Below w.heap.size w w' := by
  cases h1 : within n (-1000000000) 1000000000
  · have hh := h.out
    simp only [ofR, h1, Bool.false_eq_true, false_and, if_false] at hh
    obtain ⟨rfl, rfl, rfl⟩ := no3 hh
    clear h hh
    go_enter Try.func111, Try.ntmps111
    go_wp2_with (first | (go_at_call 47; refine (within_any _ _ _ _).mono ?_; rintro e w' ⟨rfl, rfl⟩))
    refine bodyPost_ret (v := .tuple #[.agg #[.int .i64 0, .int .i64 0], .bool false]) (by simp only [results, Try.results111]; go_simp) rfl ⟨rfl, ?_⟩
    (repeat (first | with_reducible exact Below.refl _ _ | with_reducible assumption | (with_reducible refine below_drewN ?_ _) | (with_reducible refine Below.drew ?_) | (with_reducible refine Below.setCell ?_ (by first | omega | (simp; done) | (simp; omega)) _) | (with_reducible refine Below.alloc ?_ (by first | omega | (simp; done) | (simp; omega)) _) | refine Below.trans ?_ (Below.mono (by with_reducible assumption) (by first | omega | (simp; done) | (simp; omega)))))
  cases h2 : within d (-1000000000) 1000000000
  · have hh := h.out
    simp only [ofR, h1, h2, Bool.false_eq_true, and_false, if_false] at hh
    obtain ⟨rfl, rfl, rfl⟩ := no3 hh
    clear h hh
    go_enter Try.func111, Try.ntmps111
    go_wp2_with (first | (go_at_call 47; refine (within_any _ _ _ _).mono ?_; rintro e w' ⟨rfl, rfl⟩))
    refine bodyPost_ret (v := .tuple #[.agg #[.int .i64 0, .int .i64 0], .bool false]) (by simp only [results, Try.results111]; go_simp) rfl ⟨rfl, ?_⟩
    (repeat (first | with_reducible exact Below.refl _ _ | with_reducible assumption | (with_reducible refine below_drewN ?_ _) | (with_reducible refine Below.drew ?_) | (with_reducible refine Below.setCell ?_ (by first | omega | (simp; done) | (simp; omega)) _) | (with_reducible refine Below.alloc ?_ (by first | omega | (simp; done) | (simp; omega)) _) | refine Below.trans ?_ (Below.mono (by with_reducible assumption) (by first | omega | (simp; done) | (simp; omega)))))
  · have hh := h.out
    simp only [ofR, h1, h2, and_self, if_true] at hh
    have H := Lib.hid hh
    clear h hh
    obtain ⟨b1, b1'⟩ := within_iff.1 h1
    obtain ⟨b2, b2'⟩ := within_iff.1 h2
    go_enter Try.func111, Try.ntmps111
    go_wp2_with (first | (go_at_call 47; refine (within_any _ _ _ _).mono ?_; rintro e w' ⟨rfl, rfl⟩) | (go_at_call 112; refine (ratOf_any _ _ x y b H (by omega) (by omega) (by omega) (by omega) _).mono ?_; rintro e w1 ⟨rfl, hb1⟩; have hz1 := hb1.size; (try simp at hz1); have hB1 : Below w.heap.size w w1 := (by refine Below.trans ?_ (Below.mono hb1 (by first | omega | (simp; done) | (simp; omega))); (repeat (first | with_reducible exact Below.refl _ _ | with_reducible assumption | (with_reducible refine below_drewN ?_ _) | (with_reducible refine Below.drew ?_) | (with_reducible refine Below.setCell ?_ (by first | omega | (simp; done) | (simp; omega)) _) | (with_reducible refine Below.alloc ?_ (by first | omega | (simp; done) | (simp; omega)) _) | refine Below.trans ?_ (Below.mono (by with_reducible assumption) (by first | omega | (simp; done) | (simp; omega)))))); obtain ⟨kc_, fc_, lc_⟩ := keep_later (a := ⟨w.heap.size, 0, none⟩) (v := .int .i64 0) hb1 (by go_simp) (by go_simp); obtain ⟨kc_, fc_, lc_⟩ := keep_later (a := ⟨w.heap.size, 1, none⟩) (v := .int .i64 0) hb1 (by go_simp) (by go_simp); clear hb1))
    refine bodyPost_ret (v := .tuple #[.agg #[.int .i64 x, .int .i64 y], .bool b]) (by simp only [results, Try.results111]; go_simp) rfl ⟨rfl, ?_⟩
    (repeat (first | with_reducible exact Below.refl _ _ | with_reducible assumption | (with_reducible refine below_drewN ?_ _) | (with_reducible refine Below.drew ?_) | (with_reducible refine Below.setCell ?_ (by first | omega | (simp; done) | (simp; omega)) _) | (with_reducible refine Below.alloc ?_ (by first | omega | (simp; done) | (simp; omega)) _) | refine Below.trans ?_ (Below.mono (by with_reducible assumption) (by first | omega | (simp; done) | (simp; omega)))))

theorem mkz_pos {n d : Int} (h : 0 < d) : mkz n d = mk n d := by unfold mkz; rw [if_neg (by omega), if_neg (by omega)]


theorem iRatAdd_any(a b c d : Int) (x y : Int) (t : Bool) (h : Hid (addR a b c d = (x, y, t))) (w : World) :
    Calls Try.prog 88 #[.agg #[.int .i64 a, .int .i64 b], .agg #[.int .i64 c, .int .i64 d]] w fun e w' => e = .returned (.tuple #[.agg #[.int .i64 x, .int .i64 y], .bool t]) ∧ Below w.heap.size w w' := by
  cases h1 : ratOk a b
  · have hh := h.out
    simp only [addR, h1, Bool.false_eq_true, false_and, if_false] at hh
    obtain ⟨rfl, rfl, rfl⟩ := no3 hh
    clear h hh
    go_enter Try.func88, Try.ntmps88
    go_wp2_with (first | (go_at_call 91; refine (iRatOk_any _ _ _).mono ?_; rintro e w1 ⟨rfl, hb1⟩; have hz1 := hb1.size; (try simp at hz1); have hB1 : Below w.heap.size w w1 := (by refine Below.trans ?_ (Below.mono hb1 (by first | omega | (simp; done) | (simp; omega))); (repeat (first | with_reducible exact Below.refl _ _ | with_reducible assumption | (with_reducible refine below_drewN ?_ _) | (with_reducible refine Below.drew ?_) | (with_reducible refine Below.setCell ?_ (by first | omega | (simp; done) | (simp; omega)) _) | (with_reducible refine Below.alloc ?_ (by first | omega | (simp; done) | (simp; omega)) _) | refine Below.trans ?_ (Below.mono (by with_reducible assumption) (by first | omega | (simp; done) | (simp; omega)))))); obtain ⟨kc_, fc_, lc_⟩ := keep_later (a := ⟨w.heap.size, 0, none⟩) (v := .int .i64 a) hb1 (by go_simp) (by go_simp); obtain ⟨kc_, fc_, lc_⟩ := keep_later (a := ⟨w.heap.size, 1, none⟩) (v := .int .i64 b) hb1 (by go_simp) (by go_simp); obtain ⟨kc_, fc_, lc_⟩ := keep_later (a := ⟨w.heap.size+1, 0, none⟩) (v := .int .i64 c) hb1 (by go_simp) (by go_simp); obtain ⟨kc_, fc_, lc_⟩ := keep_later (a := ⟨w.heap.size+1, 1, none⟩) (v := .int .i64 d) hb1 (by go_simp) (by go_simp); obtain ⟨kc_, fc_, lc_⟩ := keep_later (a := ⟨w.heap.size+1+1, 0, none⟩) (v := .int .i64 0) hb1 (by go_simp) (by go_simp); obtain ⟨kc_, fc_, lc_⟩ := keep_later (a := ⟨w.heap.size+1+1, 1, none⟩) (v := .int .i64 0) hb1 (by go_simp) (by go_simp); clear hb1))
    refine bodyPost_ret (v := .tuple #[.agg #[.int .i64 0, .int .i64 0], .bool false]) (by simp only [results, Try.results88]; go_simp) rfl ⟨rfl, ?_⟩
    (repeat (first | with_reducible exact Below.refl _ _ | with_reducible assumption | (with_reducible refine below_drewN ?_ _) | (with_reducible refine Below.drew ?_) | (with_reducible refine Below.setCell ?_ (by first | omega | (simp; done) | (simp; omega)) _) | (with_reducible refine Below.alloc ?_ (by first | omega | (simp; done) | (simp; omega)) _) | refine Below.trans ?_ (Below.mono (by with_reducible assumption) (by first | omega | (simp; done) | (simp; omega)))))
  cases h2 : ratOk c d
  · have hh := h.out
    simp only [addR, h1, h2, Bool.false_eq_true, and_false, if_false] at hh
    obtain ⟨rfl, rfl, rfl⟩ := no3 hh
    clear h hh
    go_enter Try.func88, Try.ntmps88
    go_wp2_with (first | (go_at_call 91; refine (iRatOk_any _ _ _).mono ?_; rintro e w1 ⟨rfl, hb1⟩; have hz1 := hb1.size; (try simp at hz1); have hB1 : Below w.heap.size w w1 := (by refine Below.trans ?_ (Below.mono hb1 (by first | omega | (simp; done) | (simp; omega))); (repeat (first | with_reducible exact Below.refl _ _ | with_reducible assumption | (with_reducible refine below_drewN ?_ _) | (with_reducible refine Below.drew ?_) | (with_reducible refine Below.setCell ?_ (by first | omega | (simp; done) | (simp; omega)) _) | (with_reducible refine Below.alloc ?_ (by first | omega | (simp; done) | (simp; omega)) _) | refine Below.trans ?_ (Below.mono (by with_reducible assumption) (by first | omega | (simp; done) | (simp; omega)))))); obtain ⟨kc_, fc_, lc_⟩ := keep_later (a := ⟨w.heap.size, 0, none⟩) (v := .int .i64 a) hb1 (by go_simp) (by go_simp); obtain ⟨kc_, fc_, lc_⟩ := keep_later (a := ⟨w.heap.size, 1, none⟩) (v := .int .i64 b) hb1 (by go_simp) (by go_simp); obtain ⟨kc_, fc_, lc_⟩ := keep_later (a := ⟨w.heap.size+1, 0, none⟩) (v := .int .i64 c) hb1 (by go_simp) (by go_simp); obtain ⟨kc_, fc_, lc_⟩ := keep_later (a := ⟨w.heap.size+1, 1, none⟩) (v := .int .i64 d) hb1 (by go_simp) (by go_simp); obtain ⟨kc_, fc_, lc_⟩ := keep_later (a := ⟨w.heap.size+1+1, 0, none⟩) (v := .int .i64 0) hb1 (by go_simp) (by go_simp); obtain ⟨kc_, fc_, lc_⟩ := keep_later (a := ⟨w.heap.size+1+1, 1, none⟩) (v := .int .i64 0) hb1 (by go_simp) (by go_simp); clear hb1))
    refine bodyPost_ret (v := .tuple #[.agg #[.int .i64 0, .int .i64 0], .bool false]) (by simp only [results, Try.results88]; go_simp) rfl ⟨rfl, ?_⟩
    (repeat (first | with_reducible exact Below.refl _ _ | with_reducible assumption | (with_reducible refine below_drewN ?_ _) | (with_reducible refine Below.drew ?_) | (with_reducible refine Below.setCell ?_ (by first | omega | (simp; done) | (simp; omega)) _) | (with_reducible refine Below.alloc ?_ (by first | omega | (simp; done) | (simp; omega)) _) | refine Below.trans ?_ (Below.mono (by with_reducible assumption) (by first | omega | (simp; done) | (simp; omega)))))
  · have hh := h.out
    simp only [addR, h1, h2, and_self, if_true] at hh
    obtain ⟨⟨a1, a2⟩, ⟨b1, b2⟩, _⟩ := ratOk_iff.1 h1
    obtain ⟨⟨c1, c2⟩, ⟨d1, d2⟩, _⟩ := ratOk_iff.1 h2
    obtain ⟨p1, p2⟩ := mul_bd a1 a2 (d := d) (by omega) d2
    obtain ⟨p3, p4⟩ := mul_bd c1 c2 (d := b) (by omega) b2
    obtain ⟨p5, p6⟩ := mul_bd1 b1 b2 d1 d2
    obtain ⟨p7, p8⟩ := mul_bd2 a1 a2 c1 c2
    have H := Lib.hid hh
    have H' := Lib.hid ((mkz_pos (by omega)).trans hh)
    clear h hh
    go_enter Try.func88, Try.ntmps88
    go_wp2_with (first | (go_at_call 91; refine (iRatOk_any _ _ _).mono ?_; rintro e w1 ⟨rfl, hb1⟩; have hz1 := hb1.size; (try simp at hz1); have hB1 : Below w.heap.size w w1 := (by refine Below.trans ?_ (Below.mono hb1 (by first | omega | (simp; done) | (simp; omega))); (repeat (first | with_reducible exact Below.refl _ _ | with_reducible assumption | (with_reducible refine below_drewN ?_ _) | (with_reducible refine Below.drew ?_) | (with_reducible refine Below.setCell ?_ (by first | omega | (simp; done) | (simp; omega)) _) | (with_reducible refine Below.alloc ?_ (by first | omega | (simp; done) | (simp; omega)) _) | refine Below.trans ?_ (Below.mono (by with_reducible assumption) (by first | omega | (simp; done) | (simp; omega)))))); obtain ⟨kc_, fc_, lc_⟩ := keep_later (a := ⟨w.heap.size, 0, none⟩) (v := .int .i64 a) hb1 (by go_simp) (by go_simp); obtain ⟨kc_, fc_, lc_⟩ := keep_later (a := ⟨w.heap.size, 1, none⟩) (v := .int .i64 b) hb1 (by go_simp) (by go_simp); obtain ⟨kc_, fc_, lc_⟩ := keep_later (a := ⟨w.heap.size+1, 0, none⟩) (v := .int .i64 c) hb1 (by go_simp) (by go_simp); obtain ⟨kc_, fc_, lc_⟩ := keep_later (a := ⟨w.heap.size+1, 1, none⟩) (v := .int .i64 d) hb1 (by go_simp) (by go_simp); obtain ⟨kc_, fc_, lc_⟩ := keep_later (a := ⟨w.heap.size+1+1, 0, none⟩) (v := .int .i64 0) hb1 (by go_simp) (by go_simp); obtain ⟨kc_, fc_, lc_⟩ := keep_later (a := ⟨w.heap.size+1+1, 1, none⟩) (v := .int .i64 0) hb1 (by go_simp) (by go_simp); clear hb1) | (go_at_call 112; refine (ratOf_any _ _ x y t H' (by omega) (by omega) (by omega) (by omega) _).mono ?_; rintro e w1 ⟨rfl, hb1⟩; have hz1 := hb1.size; (try simp at hz1); have hB1 : Below w.heap.size w w1 := (by refine Below.trans ?_ (Below.mono hb1 (by first | omega | (simp; done) | (simp; omega))); (repeat (first | with_reducible exact Below.refl _ _ | with_reducible assumption | (with_reducible refine below_drewN ?_ _) | (with_reducible refine Below.drew ?_) | (with_reducible refine Below.setCell ?_ (by first | omega | (simp; done) | (simp; omega)) _) | (with_reducible refine Below.alloc ?_ (by first | omega | (simp; done) | (simp; omega)) _) | refine Below.trans ?_ (Below.mono (by with_reducible assumption) (by first | omega | (simp; done) | (simp; omega)))))); obtain ⟨kc_, fc_, lc_⟩ := keep_later (a := ⟨w.heap.size+1+1, 0, none⟩) (v := .int .i64 0) hb1 (by go_simp) (by go_simp); obtain ⟨kc_, fc_, lc_⟩ := keep_later (a := ⟨w.heap.size+1+1, 1, none⟩) (v := .int .i64 0) hb1 (by go_simp) (by go_simp); clear hb1))
    refine bodyPost_ret (v := .tuple #[.agg #[.int .i64 x, .int .i64 y], .bool t]) (by simp only [results, Try.results88]; go_simp) rfl ⟨rfl, ?_⟩
    (repeat (first | with_reducible exact Below.refl _ _ | with_reducible assumption | (with_reducible refine below_drewN ?_ _) | (with_reducible refine Below.drew ?_) | (with_reducible refine Below.setCell ?_ (by first | omega | (simp; done) | (simp; omega)) _) | (with_reducible refine Below.alloc ?_ (by first | omega | (simp; done) | (simp; omega)) _) | refine Below.trans ?_ (Below.mono (by with_reducible assumption) (by first | omega | (simp; done) | (simp; omega)))))

theorem iRatMul_any(a b c d : Int) (x y : Int) (t : Bool) (h : Hid (mulR a b c d = (x, y, t))) (w : World) :
    Calls Try.prog 92 #[.agg #[.int .i64 a, .int .i64 b], .agg #[.int .i64 c, .int .i64 d]] w fun e w' => e = .returned (.tuple #[.agg #[.int .i64 x, .int .i64 y], .bool t]) ∧ Below w.heap.size w w' := by
  cases h1 : ratOk a b
  · have hh := h.out
    simp only [mulR, h1, Bool.false_eq_true, false_and, if_false] at hh
    obtain ⟨rfl, rfl, rfl⟩ := no3 hh
    clear h hh
    go_enter Try.func92, Try.ntmps92
    go_wp2_with (first | (go_at_call 91; refine (iRatOk_any _ _ _).mono ?_; rintro e w1 ⟨rfl, hb1⟩; have hz1 := hb1.size; (try simp at hz1); have hB1 : Below w.heap.size w w1 := (by refine Below.trans ?_ (Below.mono hb1 (by first | omega | (simp; done) | (simp; omega))); (repeat (first | with_reducible exact Below.refl _ _ | with_reducible assumption | (with_reducible refine below_drewN ?_ _) | (with_reducible refine Below.drew ?_) | (with_reducible refine Below.setCell ?_ (by first | omega | (simp; done) | (simp; omega)) _) | (with_reducible refine Below.alloc ?_ (by first | omega | (simp; done) | (simp; omega)) _) | refine Below.trans ?_ (Below.mono (by with_reducible assumption) (by first | omega | (simp; done) | (simp; omega)))))); obtain ⟨kc_, fc_, lc_⟩ := keep_later (a := ⟨w.heap.size, 0, none⟩) (v := .int .i64 a) hb1 (by go_simp) (by go_simp); obtain ⟨kc_, fc_, lc_⟩ := keep_later (a := ⟨w.heap.size, 1, none⟩) (v := .int .i64 b) hb1 (by go_simp) (by go_simp); obtain ⟨kc_, fc_, lc_⟩ := keep_later (a := ⟨w.heap.size+1, 0, none⟩) (v := .int .i64 c) hb1 (by go_simp) (by go_simp); obtain ⟨kc_, fc_, lc_⟩ := keep_later (a := ⟨w.heap.size+1, 1, none⟩) (v := .int .i64 d) hb1 (by go_simp) (by go_simp); obtain ⟨kc_, fc_, lc_⟩ := keep_later (a := ⟨w.heap.size+1+1, 0, none⟩) (v := .int .i64 0) hb1 (by go_simp) (by go_simp); obtain ⟨kc_, fc_, lc_⟩ := keep_later (a := ⟨w.heap.size+1+1, 1, none⟩) (v := .int .i64 0) hb1 (by go_simp) (by go_simp); clear hb1))
    refine bodyPost_ret (v := .tuple #[.agg #[.int .i64 0, .int .i64 0], .bool false]) (by simp only [results, Try.results92]; go_simp) rfl ⟨rfl, ?_⟩
    (repeat (first | with_reducible exact Below.refl _ _ | with_reducible assumption | (with_reducible refine below_drewN ?_ _) | (with_reducible refine Below.drew ?_) | (with_reducible refine Below.setCell ?_ (by first | omega | (simp; done) | (simp; omega)) _) | (with_reducible refine Below.alloc ?_ (by first | omega | (simp; done) | (simp; omega)) _) | refine Below.trans ?_ (Below.mono (by with_reducible assumption) (by first | omega | (simp; done) | (simp; omega)))))
  cases h2 : ratOk c d
  · have hh := h.out
    simp only [mulR, h1, h2, Bool.false_eq_true, and_false, if_false] at hh
    obtain ⟨rfl, rfl, rfl⟩ := no3 hh
    clear h hh
    go_enter Try.func92, Try.ntmps92
    go_wp2_with (first | (go_at_call 91; refine (iRatOk_any _ _ _).mono ?_; rintro e w1 ⟨rfl, hb1⟩; have hz1 := hb1.size; (try simp at hz1); have hB1 : Below w.heap.size w w1 := (by refine Below.trans ?_ (Below.mono hb1 (by first | omega | (simp; done) | (simp; omega))); (repeat (first | with_reducible exact Below.refl _ _ | with_reducible assumption | (with_reducible refine below_drewN ?_ _) | (with_reducible refine Below.drew ?_) | (with_reducible refine Below.setCell ?_ (by first | omega | (simp; done) | (simp; omega)) _) | (with_reducible refine Below.alloc ?_ (by first | omega | (simp; done) | (simp; omega)) _) | refine Below.trans ?_ (Below.mono (by with_reducible assumption) (by first | omega | (simp; done) | (simp; omega)))))); obtain ⟨kc_, fc_, lc_⟩ := keep_later (a := ⟨w.heap.size, 0, none⟩) (v := .int .i64 a) hb1 (by go_simp) (by go_simp); obtain ⟨kc_, fc_, lc_⟩ := keep_later (a := ⟨w.heap.size, 1, none⟩) (v := .int .i64 b) hb1 (by go_simp) (by go_simp); obtain ⟨kc_, fc_, lc_⟩ := keep_later (a := ⟨w.heap.size+1, 0, none⟩) (v := .int .i64 c) hb1 (by go_simp) (by go_simp); obtain ⟨kc_, fc_, lc_⟩ := keep_later (a := ⟨w.heap.size+1, 1, none⟩) (v := .int .i64 d) hb1 (by go_simp) (by go_simp); obtain ⟨kc_, fc_, lc_⟩ := keep_later (a := ⟨w.heap.size+1+1, 0, none⟩) (v := .int .i64 0) hb1 (by go_simp) (by go_simp); obtain ⟨kc_, fc_, lc_⟩ := keep_later (a := ⟨w.heap.size+1+1, 1, none⟩) (v := .int .i64 0) hb1 (by go_simp) (by go_simp); clear hb1))
    refine bodyPost_ret (v := .tuple #[.agg #[.int .i64 0, .int .i64 0], .bool false]) (by simp only [results, Try.results92]; go_simp) rfl ⟨rfl, ?_⟩
    (repeat (first | with_reducible exact Below.refl _ _ | with_reducible assumption | (with_reducible refine below_drewN ?_ _) | (with_reducible refine Below.drew ?_) | (with_reducible refine Below.setCell ?_ (by first | omega | (simp; done) | (simp; omega)) _) | (with_reducible refine Below.alloc ?_ (by first | omega | (simp; done) | (simp; omega)) _) | refine Below.trans ?_ (Below.mono (by with_reducible assumption) (by first | omega | (simp; done) | (simp; omega)))))
  · have hh := h.out
    simp only [mulR, h1, h2, and_self, if_true] at hh
    obtain ⟨⟨a1, a2⟩, ⟨b1, b2⟩, _⟩ := ratOk_iff.1 h1
    obtain ⟨⟨c1, c2⟩, ⟨d1, d2⟩, _⟩ := ratOk_iff.1 h2
    obtain ⟨p1, p2⟩ := mul_bd a1 a2 (d := d) (by omega) d2
    obtain ⟨p3, p4⟩ := mul_bd c1 c2 (d := b) (by omega) b2
    obtain ⟨p5, p6⟩ := mul_bd1 b1 b2 d1 d2
    obtain ⟨p7, p8⟩ := mul_bd2 a1 a2 c1 c2
    have H := Lib.hid hh
    have H' := Lib.hid ((mkz_pos (by omega)).trans hh)
    clear h hh
    go_enter Try.func92, Try.ntmps92
    go_wp2_with (first | (go_at_call 91; refine (iRatOk_any _ _ _).mono ?_; rintro e w1 ⟨rfl, hb1⟩; have hz1 := hb1.size; (try simp at hz1); have hB1 : Below w.heap.size w w1 := (by refine Below.trans ?_ (Below.mono hb1 (by first | omega | (simp; done) | (simp; omega))); (repeat (first | with_reducible exact Below.refl _ _ | with_reducible assumption | (with_reducible refine below_drewN ?_ _) | (with_reducible refine Below.drew ?_) | (with_reducible refine Below.setCell ?_ (by first | omega | (simp; done) | (simp; omega)) _) | (with_reducible refine Below.alloc ?_ (by first | omega | (simp; done) | (simp; omega)) _) | refine Below.trans ?_ (Below.mono (by with_reducible assumption) (by first | omega | (simp; done) | (simp; omega)))))); obtain ⟨kc_, fc_, lc_⟩ := keep_later (a := ⟨w.heap.size, 0, none⟩) (v := .int .i64 a) hb1 (by go_simp) (by go_simp); obtain ⟨kc_, fc_, lc_⟩ := keep_later (a := ⟨w.heap.size, 1, none⟩) (v := .int .i64 b) hb1 (by go_simp) (by go_simp); obtain ⟨kc_, fc_, lc_⟩ := keep_later (a := ⟨w.heap.size+1, 0, none⟩) (v := .int .i64 c) hb1 (by go_simp) (by go_simp); obtain ⟨kc_, fc_, lc_⟩ := keep_later (a := ⟨w.heap.size+1, 1, none⟩) (v := .int .i64 d) hb1 (by go_simp) (by go_simp); obtain ⟨kc_, fc_, lc_⟩ := keep_later (a := ⟨w.heap.size+1+1, 0, none⟩) (v := .int .i64 0) hb1 (by go_simp) (by go_simp); obtain ⟨kc_, fc_, lc_⟩ := keep_later (a := ⟨w.heap.size+1+1, 1, none⟩) (v := .int .i64 0) hb1 (by go_simp) (by go_simp); clear hb1) | (go_at_call 112; refine (ratOf_any _ _ x y t H' (by omega) (by omega) (by omega) (by omega) _).mono ?_; rintro e w1 ⟨rfl, hb1⟩; have hz1 := hb1.size; (try simp at hz1); have hB1 : Below w.heap.size w w1 := (by refine Below.trans ?_ (Below.mono hb1 (by first | omega | (simp; done) | (simp; omega))); (repeat (first | with_reducible exact Below.refl _ _ | with_reducible assumption | (with_reducible refine below_drewN ?_ _) | (with_reducible refine Below.drew ?_) | (with_reducible refine Below.setCell ?_ (by first | omega | (simp; done) | (simp; omega)) _) | (with_reducible refine Below.alloc ?_ (by first | omega | (simp; done) | (simp; omega)) _) | refine Below.trans ?_ (Below.mono (by with_reducible assumption) (by first | omega | (simp; done) | (simp; omega)))))); obtain ⟨kc_, fc_, lc_⟩ := keep_later (a := ⟨w.heap.size+1+1, 0, none⟩) (v := .int .i64 0) hb1 (by go_simp) (by go_simp); obtain ⟨kc_, fc_, lc_⟩ := keep_later (a := ⟨w.heap.size+1+1, 1, none⟩) (v := .int .i64 0) hb1 (by go_simp) (by go_simp); clear hb1))
    refine bodyPost_ret (v := .tuple #[.agg #[.int .i64 x, .int .i64 y], .bool t]) (by simp only [results, Try.results92]; go_simp) rfl ⟨rfl, ?_⟩
    (repeat (first | with_reducible exact Below.refl _ _ | with_reducible assumption | (with_reducible refine below_drewN ?_ _) | (with_reducible refine Below.drew ?_) | (with_reducible refine Below.setCell ?_ (by first | omega | (simp; done) | (simp; omega)) _) | (with_reducible refine Below.alloc ?_ (by first | omega | (simp; done) | (simp; omega)) _) | refine Below.trans ?_ (Below.mono (by with_reducible assumption) (by first | omega | (simp; done) | (simp; omega)))))

theorem iRatLess_any(a b c d : Int) (w : World) :
    Calls Try.prog 86 #[.agg #[.int .i64 a, .int .i64 b], .agg #[.int .i64 c, .int .i64 d]] w fun e w' => e = .returned (.bool (lessR a b c d)) ∧ Below w.heap.size w w' := by
  cases h1 : ratOk a b
  · have hr : lessR a b c d = false := by simp [lessR, h1]
    rw [hr]
    go_enter Try.func86, Try.ntmps86
    go_wp2_with (first | (go_at_call 91; refine (iRatOk_any _ _ _).mono ?_; rintro e w1 ⟨rfl, hb1⟩; have hz1 := hb1.size; (try simp at hz1); have hB1 : Below w.heap.size w w1 := (by refine Below.trans ?_ (Below.mono hb1 (by first | omega | (simp; done) | (simp; omega))); (repeat (first | with_reducible exact Below.refl _ _ | with_reducible assumption | (with_reducible refine below_drewN ?_ _) | (with_reducible refine Below.drew ?_) | (with_reducible refine Below.setCell ?_ (by first | omega | (simp; done) | (simp; omega)) _) | (with_reducible refine Below.alloc ?_ (by first | omega | (simp; done) | (simp; omega)) _) | refine Below.trans ?_ (Below.mono (by with_reducible assumption) (by first | omega | (simp; done) | (simp; omega)))))); obtain ⟨kc_, fc_, lc_⟩ := keep_later (a := ⟨w.heap.size, 0, none⟩) (v := .int .i64 a) hb1 (by go_simp) (by go_simp); obtain ⟨kc_, fc_, lc_⟩ := keep_later (a := ⟨w.heap.size, 1, none⟩) (v := .int .i64 b) hb1 (by go_simp) (by go_simp); obtain ⟨kc_, fc_, lc_⟩ := keep_later (a := ⟨w.heap.size+1, 0, none⟩) (v := .int .i64 c) hb1 (by go_simp) (by go_simp); obtain ⟨kc_, fc_, lc_⟩ := keep_later (a := ⟨w.heap.size+1, 1, none⟩) (v := .int .i64 d) hb1 (by go_simp) (by go_simp); clear hb1))
    go_ret
    exact ⟨rfl, by (repeat (first | with_reducible exact Below.refl _ _ | with_reducible assumption | (with_reducible refine below_drewN ?_ _) | (with_reducible refine Below.drew ?_) | (with_reducible refine Below.setCell ?_ (by first | omega | (simp; done) | (simp; omega)) _) | (with_reducible refine Below.alloc ?_ (by first | omega | (simp; done) | (simp; omega)) _) | refine Below.trans ?_ (Below.mono (by with_reducible assumption) (by first | omega | (simp; done) | (simp; omega)))))⟩
  cases h2 : ratOk c d
  · have hr : lessR a b c d = false := by simp [lessR, h1, h2]
    rw [hr]
    go_enter Try.func86, Try.ntmps86
    go_wp2_with (first | (go_at_call 91; refine (iRatOk_any _ _ _).mono ?_; rintro e w1 ⟨rfl, hb1⟩; have hz1 := hb1.size; (try simp at hz1); have hB1 : Below w.heap.size w w1 := (by refine Below.trans ?_ (Below.mono hb1 (by first | omega | (simp; done) | (simp; omega))); (repeat (first | with_reducible exact Below.refl _ _ | with_reducible assumption | (with_reducible refine below_drewN ?_ _) | (with_reducible refine Below.drew ?_) | (with_reducible refine Below.setCell ?_ (by first | omega | (simp; done) | (simp; omega)) _) | (with_reducible refine Below.alloc ?_ (by first | omega | (simp; done) | (simp; omega)) _) | refine Below.trans ?_ (Below.mono (by with_reducible assumption) (by first | omega | (simp; done) | (simp; omega)))))); obtain ⟨kc_, fc_, lc_⟩ := keep_later (a := ⟨w.heap.size, 0, none⟩) (v := .int .i64 a) hb1 (by go_simp) (by go_simp); obtain ⟨kc_, fc_, lc_⟩ := keep_later (a := ⟨w.heap.size, 1, none⟩) (v := .int .i64 b) hb1 (by go_simp) (by go_simp); obtain ⟨kc_, fc_, lc_⟩ := keep_later (a := ⟨w.heap.size+1, 0, none⟩) (v := .int .i64 c) hb1 (by go_simp) (by go_simp); obtain ⟨kc_, fc_, lc_⟩ := keep_later (a := ⟨w.heap.size+1, 1, none⟩) (v := .int .i64 d) hb1 (by go_simp) (by go_simp); clear hb1))
    go_ret
    exact ⟨rfl, by (repeat (first | with_reducible exact Below.refl _ _ | with_reducible assumption | (with_reducible refine below_drewN ?_ _) | (with_reducible refine Below.drew ?_) | (with_reducible refine Below.setCell ?_ (by first | omega | (simp; done) | (simp; omega)) _) | (with_reducible refine Below.alloc ?_ (by first | omega | (simp; done) | (simp; omega)) _) | refine Below.trans ?_ (Below.mono (by with_reducible assumption) (by first | omega | (simp; done) | (simp; omega)))))⟩
  · have hr : lessR a b c d = decide (a * d < c * b) := by simp [lessR, h1, h2]
    rw [hr]
    obtain ⟨⟨a1, a2⟩, ⟨b1, b2⟩, _⟩ := ratOk_iff.1 h1
    obtain ⟨⟨c1, c2⟩, ⟨d1, d2⟩, _⟩ := ratOk_iff.1 h2
    obtain ⟨p1, p2⟩ := mul_bd a1 a2 (d := d) (by omega) d2
    obtain ⟨p3, p4⟩ := mul_bd c1 c2 (d := b) (by omega) b2
    go_enter Try.func86, Try.ntmps86
    go_wp2_with (first | (go_at_call 91; refine (iRatOk_any _ _ _).mono ?_; rintro e w1 ⟨rfl, hb1⟩; have hz1 := hb1.size; (try simp at hz1); have hB1 : Below w.heap.size w w1 := (by refine Below.trans ?_ (Below.mono hb1 (by first | omega | (simp; done) | (simp; omega))); (repeat (first | with_reducible exact Below.refl _ _ | with_reducible assumption | (with_reducible refine below_drewN ?_ _) | (with_reducible refine Below.drew ?_) | (with_reducible refine Below.setCell ?_ (by first | omega | (simp; done) | (simp; omega)) _) | (with_reducible refine Below.alloc ?_ (by first | omega | (simp; done) | (simp; omega)) _) | refine Below.trans ?_ (Below.mono (by with_reducible assumption) (by first | omega | (simp; done) | (simp; omega)))))); obtain ⟨kc_, fc_, lc_⟩ := keep_later (a := ⟨w.heap.size, 0, none⟩) (v := .int .i64 a) hb1 (by go_simp) (by go_simp); obtain ⟨kc_, fc_, lc_⟩ := keep_later (a := ⟨w.heap.size, 1, none⟩) (v := .int .i64 b) hb1 (by go_simp) (by go_simp); obtain ⟨kc_, fc_, lc_⟩ := keep_later (a := ⟨w.heap.size+1, 0, none⟩) (v := .int .i64 c) hb1 (by go_simp) (by go_simp); obtain ⟨kc_, fc_, lc_⟩ := keep_later (a := ⟨w.heap.size+1, 1, none⟩) (v := .int .i64 d) hb1 (by go_simp) (by go_simp); clear hb1))
    go_ret
    exact ⟨rfl, by (repeat (first | with_reducible exact Below.refl _ _ | with_reducible assumption | (with_reducible refine below_drewN ?_ _) | (with_reducible refine Below.drew ?_) | (with_reducible refine Below.setCell ?_ (by first | omega | (simp; done) | (simp; omega)) _) | (with_reducible refine Below.alloc ?_ (by first | omega | (simp; done) | (simp; omega)) _) | refine Below.trans ?_ (Below.mono (by with_reducible assumption) (by first | omega | (simp; done) | (simp; omega)))))⟩

theorem iRatMid_any(a b c d : Int) (x y : Int) (t : Bool) (h : Hid (midR a b c d = (x, y, t))) (w : World) :
    Calls Try.prog 87 #[.agg #[.int .i64 a, .int .i64 b], .agg #[.int .i64 c, .int .i64 d]] w fun e w' => e = .returned (.tuple #[.agg #[.int .i64 x, .int .i64 y], .bool t]) ∧ Below w.heap.size w w' := by
  obtain ⟨p, q, u, h1⟩ : ∃ p q u, addR a b c d = (p, q, u) := ⟨_, _, _, rfl⟩
  have hh := h.out
  simp only [midR, h1] at hh
  have H1 := Lib.hid h1
  clear h h1
  cases u
  · obtain ⟨rfl, rfl, rfl⟩ := no3 hh
    clear hh
    go_enter Try.func87, Try.ntmps87
    go_wp2_with (first | (go_at_call 88; refine (iRatAdd_any _ _ _ _ _ _ _ H1 _).mono ?_; rintro e w1 ⟨rfl, hb1⟩; have hz1 := hb1.size; (try simp at hz1); have hB1 : Below w.heap.size w w1 := (by refine Below.trans ?_ (Below.mono hb1 (by first | omega | (simp; done) | (simp; omega))); (repeat (first | with_reducible exact Below.refl _ _ | with_reducible assumption | (with_reducible refine below_drewN ?_ _) | (with_reducible refine Below.drew ?_) | (with_reducible refine Below.setCell ?_ (by first | omega | (simp; done) | (simp; omega)) _) | (with_reducible refine Below.alloc ?_ (by first | omega | (simp; done) | (simp; omega)) _) | refine Below.trans ?_ (Below.mono (by with_reducible assumption) (by first | omega | (simp; done) | (simp; omega)))))); obtain ⟨kc_, fc_, lc_⟩ := keep_later (a := ⟨w.heap.size+1+1, 0, none⟩) (v := .int .i64 0) hb1 (by go_simp) (by go_simp); obtain ⟨kc_, fc_, lc_⟩ := keep_later (a := ⟨w.heap.size+1+1, 1, none⟩) (v := .int .i64 0) hb1 (by go_simp) (by go_simp); clear hb1))
    refine bodyPost_ret (v := .tuple #[.agg #[.int .i64 0, .int .i64 0], .bool false]) (by simp only [results, Try.results87]; go_simp) rfl ⟨rfl, ?_⟩
    (repeat (first | with_reducible exact Below.refl _ _ | with_reducible assumption | (with_reducible refine below_drewN ?_ _) | (with_reducible refine Below.drew ?_) | (with_reducible refine Below.setCell ?_ (by first | omega | (simp; done) | (simp; omega)) _) | (with_reducible refine Below.alloc ?_ (by first | omega | (simp; done) | (simp; omega)) _) | refine Below.trans ?_ (Below.mono (by with_reducible assumption) (by first | omega | (simp; done) | (simp; omega)))))
  · have H2 := Lib.hid hh
    clear hh
    go_enter Try.func87, Try.ntmps87
    go_wp2_with (first | (go_at_call 88; refine (iRatAdd_any _ _ _ _ _ _ _ H1 _).mono ?_; rintro e w1 ⟨rfl, hb1⟩; have hz1 := hb1.size; (try simp at hz1); have hB1 : Below w.heap.size w w1 := (by refine Below.trans ?_ (Below.mono hb1 (by first | omega | (simp; done) | (simp; omega))); (repeat (first | with_reducible exact Below.refl _ _ | with_reducible assumption | (with_reducible refine below_drewN ?_ _) | (with_reducible refine Below.drew ?_) | (with_reducible refine Below.setCell ?_ (by first | omega | (simp; done) | (simp; omega)) _) | (with_reducible refine Below.alloc ?_ (by first | omega | (simp; done) | (simp; omega)) _) | refine Below.trans ?_ (Below.mono (by with_reducible assumption) (by first | omega | (simp; done) | (simp; omega)))))); obtain ⟨kc_, fc_, lc_⟩ := keep_later (a := ⟨w.heap.size+1+1, 0, none⟩) (v := .int .i64 0) hb1 (by go_simp) (by go_simp); obtain ⟨kc_, fc_, lc_⟩ := keep_later (a := ⟨w.heap.size+1+1, 1, none⟩) (v := .int .i64 0) hb1 (by go_simp) (by go_simp); clear hb1) | (go_at_call 92; refine (iRatMul_any _ _ _ _ _ _ _ H2 _).mono ?_; rintro e w1 ⟨rfl, hb1⟩; have hz1 := hb1.size; (try simp at hz1); have hB1 : Below w.heap.size w w1 := (by refine Below.trans ?_ (Below.mono hb1 (by first | omega | (simp; done) | (simp; omega))); (repeat (first | with_reducible exact Below.refl _ _ | with_reducible assumption | (with_reducible refine below_drewN ?_ _) | (with_reducible refine Below.drew ?_) | (with_reducible refine Below.setCell ?_ (by first | omega | (simp; done) | (simp; omega)) _) | (with_reducible refine Below.alloc ?_ (by first | omega | (simp; done) | (simp; omega)) _) | refine Below.trans ?_ (Below.mono (by with_reducible assumption) (by first | omega | (simp; done) | (simp; omega)))))); obtain ⟨kc_, fc_, lc_⟩ := keep_later (a := ⟨w.heap.size+1+1, 0, none⟩) (v := .int .i64 0) hb1 (by go_simp) (by go_simp); obtain ⟨kc_, fc_, lc_⟩ := keep_later (a := ⟨w.heap.size+1+1, 1, none⟩) (v := .int .i64 0) hb1 (by go_simp) (by go_simp); clear hb1))
    refine bodyPost_ret (v := .tuple #[.agg #[.int .i64 x, .int .i64 y], .bool t]) (by simp only [results, Try.results87]; go_simp) rfl ⟨rfl, ?_⟩
    (repeat (first | with_reducible exact Below.refl _ _ | with_reducible assumption | (with_reducible refine below_drewN ?_ _) | (with_reducible refine Below.drew ?_) | (with_reducible refine Below.setCell ?_ (by first | omega | (simp; done) | (simp; omega)) _) | (with_reducible refine Below.alloc ?_ (by first | omega | (simp; done) | (simp; omega)) _) | refine Below.trans ?_ (Below.mono (by with_reducible assumption) (by first | omega | (simp; done) | (simp; omega)))))

set_option maxHeartbeats 400000 in
theorem l1Least_any (n d : Int) (x y : Int) (b : Bool) (h : Hid (mk n d = (x, y, b))) (h0 : 0 < d) (hn : -4000000000000000000 ≤ n) (hn' : n ≤ 4000000000000000000) (hd' : d ≤ 4000000000000000000) (w : World) :
    Calls Try.prog 118 #[.int .i64 n, .int .i64 d] w fun e w' => e = .returned (.tuple #[.agg #[.int .i64 x, .int .i64 y], .bool b]) ∧ Below w.heap.size w w' := by
  have hg : 0 < Int.gcd n d := gcd_pos_of (by omega)
  have q1 := tdiv_bd n (Int.gcd n d) _ hn hn'
  have q2 := tdiv_bd d (Int.gcd n d) 4000000000000000000 (by omega) hd'
  obtain ⟨X, hX⟩ : ∃ X, n.tdiv (Int.gcd n d) = X := ⟨_, rfl⟩
  obtain ⟨Y, hY⟩ : ∃ Y, d.tdiv (Int.gcd n d) = Y := ⟨_, rfl⟩
  have e1 : n.tdiv (Int.gcd n d) = X := hX
  have e2 : d / (Int.gcd n d : Int) = Y := by rw [← hY, Int.tdiv_eq_ediv_of_nonneg (by omega)]
  have e3 : wrap64 X = X := by rw [IntWalk.wrap64_in _ (by omega)]
  have hh := h.out
  by_cases h1 : n < 0
  · cases hk : ratOk X Y
    · rw [mk_no hX hY hk] at hh
      obtain ⟨rfl, rfl, rfl⟩ := no3 hh
      clear h hh hX hY q1 q2
      go_enter Try.func118, Try.ntmps118
      go_wp2_with (first | (go_at_call 108; refine (l1Gcd_any _ _ (by omega) (by omega) (by omega) (by omega) _).mono ?_; rintro e w' ⟨rfl, m, rfl⟩; (try rw [Int.neg_gcd])))
      go_region
      go_wp2_with (first | (go_at_call 100; refine (sRatOk_any _ _ _).mono ?_; rintro e w1 ⟨rfl, hb1⟩; have hz1 := hb1.size; (try simp at hz1); have hB1 : Below w.heap.size w w1 := (by refine Below.trans ?_ (Below.mono hb1 (by first | omega | (simp; done) | (simp; omega))); (repeat (first | with_reducible exact Below.refl _ _ | with_reducible assumption | (with_reducible refine below_drewN ?_ _) | (with_reducible refine Below.drew ?_) | (with_reducible refine Below.setCell ?_ (by first | omega | (simp; done) | (simp; omega)) _) | (with_reducible refine Below.alloc ?_ (by first | omega | (simp; done) | (simp; omega)) _) | refine Below.trans ?_ (Below.mono (by with_reducible assumption) (by first | omega | (simp; done) | (simp; omega)))))); obtain ⟨kc_, fc_, lc_⟩ := keep_later (a := ⟨w.heap.size, 0, none⟩) (v := .int .i64 0) hb1 (by go_simp) (by go_simp); obtain ⟨kc_, fc_, lc_⟩ := keep_later (a := ⟨w.heap.size, 1, none⟩) (v := .int .i64 0) hb1 (by go_simp) (by go_simp); obtain ⟨kc_, fc_, lc_⟩ := keep_later (a := ⟨w.heap.size+1, 0, none⟩) (v := .int .i64 X) hb1 (by go_simp) (by go_simp); obtain ⟨kc_, fc_, lc_⟩ := keep_later (a := ⟨w.heap.size+1, 1, none⟩) (v := .int .i64 Y) hb1 (by go_simp) (by go_simp); clear hb1))
      refine bodyPost_ret (v := .tuple #[.agg #[.int .i64 0, .int .i64 0], .bool false]) (by simp only [results, Try.results118]; go_simp) rfl ⟨rfl, ?_⟩
      (repeat (first | with_reducible exact Below.refl _ _ | with_reducible assumption | (with_reducible refine below_drewN ?_ _) | (with_reducible refine Below.drew ?_) | (with_reducible refine Below.setCell ?_ (by first | omega | (simp; done) | (simp; omega)) _) | (with_reducible refine Below.alloc ?_ (by first | omega | (simp; done) | (simp; omega)) _) | refine Below.trans ?_ (Below.mono (by with_reducible assumption) (by first | omega | (simp; done) | (simp; omega)))))
    · rw [mk_ok hX hY hk] at hh
      obtain ⟨rfl, rfl, rfl⟩ := yes3 hh
      clear h hh hX hY q1 q2
      go_enter Try.func118, Try.ntmps118
      go_wp2_with (first | (go_at_call 108; refine (l1Gcd_any _ _ (by omega) (by omega) (by omega) (by omega) _).mono ?_; rintro e w' ⟨rfl, m, rfl⟩; (try rw [Int.neg_gcd])))
      go_region
      go_wp2_with (first | (go_at_call 100; refine (sRatOk_any _ _ _).mono ?_; rintro e w1 ⟨rfl, hb1⟩; have hz1 := hb1.size; (try simp at hz1); have hB1 : Below w.heap.size w w1 := (by refine Below.trans ?_ (Below.mono hb1 (by first | omega | (simp; done) | (simp; omega))); (repeat (first | with_reducible exact Below.refl _ _ | with_reducible assumption | (with_reducible refine below_drewN ?_ _) | (with_reducible refine Below.drew ?_) | (with_reducible refine Below.setCell ?_ (by first | omega | (simp; done) | (simp; omega)) _) | (with_reducible refine Below.alloc ?_ (by first | omega | (simp; done) | (simp; omega)) _) | refine Below.trans ?_ (Below.mono (by with_reducible assumption) (by first | omega | (simp; done) | (simp; omega)))))); obtain ⟨kc_, fc_, lc_⟩ := keep_later (a := ⟨w.heap.size, 0, none⟩) (v := .int .i64 0) hb1 (by go_simp) (by go_simp); obtain ⟨kc_, fc_, lc_⟩ := keep_later (a := ⟨w.heap.size, 1, none⟩) (v := .int .i64 0) hb1 (by go_simp) (by go_simp); obtain ⟨kc_, fc_, lc_⟩ := keep_later (a := ⟨w.heap.size+1, 0, none⟩) (v := .int .i64 x) hb1 (by go_simp) (by go_simp); obtain ⟨kc_, fc_, lc_⟩ := keep_later (a := ⟨w.heap.size+1, 1, none⟩) (v := .int .i64 y) hb1 (by go_simp) (by go_simp); clear hb1))
      refine bodyPost_ret (v := .tuple #[.agg #[.int .i64 x, .int .i64 y], .bool true]) (by simp only [results, Try.results118]; go_simp) rfl ⟨rfl, ?_⟩
      (repeat (first | with_reducible exact Below.refl _ _ | with_reducible assumption | (with_reducible refine below_drewN ?_ _) | (with_reducible refine Below.drew ?_) | (with_reducible refine Below.setCell ?_ (by first | omega | (simp; done) | (simp; omega)) _) | (with_reducible refine Below.alloc ?_ (by first | omega | (simp; done) | (simp; omega)) _) | refine Below.trans ?_ (Below.mono (by with_reducible assumption) (by first | omega | (simp; done) | (simp; omega)))))
  · have e4 : n / (Int.gcd n d : Int) = X := by rw [← hX, Int.tdiv_eq_ediv_of_nonneg (by omega)]
    cases hk : ratOk X Y
    · rw [mk_no hX hY hk] at hh
      obtain ⟨rfl, rfl, rfl⟩ := no3 hh
      clear h hh hX hY q1 q2
      go_enter Try.func118, Try.ntmps118
      go_wp2_with (first | (go_at_call 108; refine (l1Gcd_any _ _ (by omega) (by omega) (by omega) (by omega) _).mono ?_; rintro e w' ⟨rfl, m, rfl⟩; (try rw [Int.neg_gcd])))
      go_region
      go_wp2_with (first | (go_at_call 100; refine (sRatOk_any _ _ _).mono ?_; rintro e w1 ⟨rfl, hb1⟩; have hz1 := hb1.size; (try simp at hz1); have hB1 : Below w.heap.size w w1 := (by refine Below.trans ?_ (Below.mono hb1 (by first | omega | (simp; done) | (simp; omega))); (repeat (first | with_reducible exact Below.refl _ _ | with_reducible assumption | (with_reducible refine below_drewN ?_ _) | (with_reducible refine Below.drew ?_) | (with_reducible refine Below.setCell ?_ (by first | omega | (simp; done) | (simp; omega)) _) | (with_reducible refine Below.alloc ?_ (by first | omega | (simp; done) | (simp; omega)) _) | refine Below.trans ?_ (Below.mono (by with_reducible assumption) (by first | omega | (simp; done) | (simp; omega)))))); obtain ⟨kc_, fc_, lc_⟩ := keep_later (a := ⟨w.heap.size, 0, none⟩) (v := .int .i64 0) hb1 (by go_simp) (by go_simp); obtain ⟨kc_, fc_, lc_⟩ := keep_later (a := ⟨w.heap.size, 1, none⟩) (v := .int .i64 0) hb1 (by go_simp) (by go_simp); obtain ⟨kc_, fc_, lc_⟩ := keep_later (a := ⟨w.heap.size+1, 0, none⟩) (v := .int .i64 X) hb1 (by go_simp) (by go_simp); obtain ⟨kc_, fc_, lc_⟩ := keep_later (a := ⟨w.heap.size+1, 1, none⟩) (v := .int .i64 Y) hb1 (by go_simp) (by go_simp); clear hb1))
      refine bodyPost_ret (v := .tuple #[.agg #[.int .i64 0, .int .i64 0], .bool false]) (by simp only [results, Try.results118]; go_simp) rfl ⟨rfl, ?_⟩
      (repeat (first | with_reducible exact Below.refl _ _ | with_reducible assumption | (with_reducible refine below_drewN ?_ _) | (with_reducible refine Below.drew ?_) | (with_reducible refine Below.setCell ?_ (by first | omega | (simp; done) | (simp; omega)) _) | (with_reducible refine Below.alloc ?_ (by first | omega | (simp; done) | (simp; omega)) _) | refine Below.trans ?_ (Below.mono (by with_reducible assumption) (by first | omega | (simp; done) | (simp; omega)))))
    · rw [mk_ok hX hY hk] at hh
      obtain ⟨rfl, rfl, rfl⟩ := yes3 hh
      clear h hh hX hY q1 q2
      go_enter Try.func118, Try.ntmps118
      go_wp2_with (first | (go_at_call 108; refine (l1Gcd_any _ _ (by omega) (by omega) (by omega) (by omega) _).mono ?_; rintro e w' ⟨rfl, m, rfl⟩; (try rw [Int.neg_gcd])))
      go_region
      go_wp2_with (first | (go_at_call 100; refine (sRatOk_any _ _ _).mono ?_; rintro e w1 ⟨rfl, hb1⟩; have hz1 := hb1.size; (try simp at hz1); have hB1 : Below w.heap.size w w1 := (by refine Below.trans ?_ (Below.mono hb1 (by first | omega | (simp; done) | (simp; omega))); (repeat (first | with_reducible exact Below.refl _ _ | with_reducible assumption | (with_reducible refine below_drewN ?_ _) | (with_reducible refine Below.drew ?_) | (with_reducible refine Below.setCell ?_ (by first | omega | (simp; done) | (simp; omega)) _) | (with_reducible refine Below.alloc ?_ (by first | omega | (simp; done) | (simp; omega)) _) | refine Below.trans ?_ (Below.mono (by with_reducible assumption) (by first | omega | (simp; done) | (simp; omega)))))); obtain ⟨kc_, fc_, lc_⟩ := keep_later (a := ⟨w.heap.size, 0, none⟩) (v := .int .i64 0) hb1 (by go_simp) (by go_simp); obtain ⟨kc_, fc_, lc_⟩ := keep_later (a := ⟨w.heap.size, 1, none⟩) (v := .int .i64 0) hb1 (by go_simp) (by go_simp); obtain ⟨kc_, fc_, lc_⟩ := keep_later (a := ⟨w.heap.size+1, 0, none⟩) (v := .int .i64 x) hb1 (by go_simp) (by go_simp); obtain ⟨kc_, fc_, lc_⟩ := keep_later (a := ⟨w.heap.size+1, 1, none⟩) (v := .int .i64 y) hb1 (by go_simp) (by go_simp); clear hb1))
      refine bodyPost_ret (v := .tuple #[.agg #[.int .i64 x, .int .i64 y], .bool true]) (by simp only [results, Try.results118]; go_simp) rfl ⟨rfl, ?_⟩
      (repeat (first | with_reducible exact Below.refl _ _ | with_reducible assumption | (with_reducible refine below_drewN ?_ _) | (with_reducible refine Below.drew ?_) | (with_reducible refine Below.setCell ?_ (by first | omega | (simp; done) | (simp; omega)) _) | (with_reducible refine Below.alloc ?_ (by first | omega | (simp; done) | (simp; omega)) _) | refine Below.trans ?_ (Below.mono (by with_reducible assumption) (by first | omega | (simp; done) | (simp; omega)))))

theorem sRatOf_any (n d : Int) (x y : Int) (b : Bool) (h : Hid (ofR n d = (x, y, b))) (w : World) :
    Calls Try.prog 96 #[.int .i64 n, .int .i64 d] w fun e w' => e = .returned (.tuple #[.agg #[.int .i64 x, .int .i64 y], .bool b]) ∧ Below w.heap.size w w' := by
  by_cases h0 : d = 0
  · have hh := h.out
    have h3 : ofR n d = (0, 0, false) := by unfold ofR mkz; rw [if_pos h0]; split <;> rfl
    rw [h3] at hh
    obtain ⟨rfl, rfl, rfl⟩ := no3 hh
    clear h hh h3
    have h4 : (d == 0) = true := by simpa using h0
    go_enter Try.func96, Try.ntmps96
    go_wp2_with (first | (go_at_call 117; refine (l1Abs_any _ _).mono ?_; rintro e w' ⟨rfl, rfl⟩))
    refine bodyPost_ret (v := .tuple #[.agg #[.int .i64 0, .int .i64 0], .bool false]) (by simp only [results, Try.results96]; go_simp) rfl ⟨rfl, ?_⟩
    (repeat (first | with_reducible exact Below.refl _ _ | with_reducible assumption | (with_reducible refine below_drewN ?_ _) | (with_reducible refine Below.drew ?_) | (with_reducible refine Below.setCell ?_ (by first | omega | (simp; done) | (simp; omega)) _) | (with_reducible refine Below.alloc ?_ (by first | omega | (simp; done) | (simp; omega)) _) | refine Below.trans ?_ (Below.mono (by with_reducible assumption) (by first | omega | (simp; done) | (simp; omega)))))
  have h4 : (d == 0) = false := by simpa using h0
  cases h1 : within n (-1000000000) 1000000000
  · have hh := h.out
    simp only [ofR, h1, Bool.false_eq_true, false_and, if_false] at hh
    obtain ⟨rfl, rfl, rfl⟩ := no3 hh
    clear h hh
    have h5 : 1000000000 < abs1 n := by
      have := abs1_le (n := n); rw [h1] at this; simp at this; omega
    clear h1
    go_enter Try.func96, Try.ntmps96
    go_wp2_with (first | (go_at_call 117; refine (l1Abs_any _ _).mono ?_; rintro e w' ⟨rfl, rfl⟩))
    refine bodyPost_ret (v := .tuple #[.agg #[.int .i64 0, .int .i64 0], .bool false]) (by simp only [results, Try.results96]; go_simp) rfl ⟨rfl, ?_⟩
    (repeat (first | with_reducible exact Below.refl _ _ | with_reducible assumption | (with_reducible refine below_drewN ?_ _) | (with_reducible refine Below.drew ?_) | (with_reducible refine Below.setCell ?_ (by first | omega | (simp; done) | (simp; omega)) _) | (with_reducible refine Below.alloc ?_ (by first | omega | (simp; done) | (simp; omega)) _) | refine Below.trans ?_ (Below.mono (by with_reducible assumption) (by first | omega | (simp; done) | (simp; omega)))))
  cases h2 : within d (-1000000000) 1000000000
  · have hh := h.out
    simp only [ofR, h1, h2, Bool.false_eq_true, and_false, if_false] at hh
    obtain ⟨rfl, rfl, rfl⟩ := no3 hh
    clear h hh
    have h5 : abs1 n ≤ 1000000000 := abs1_le.2 h1
    have h6 : 1000000000 < abs1 d := by
      have := abs1_le (n := d); rw [h2] at this; simp at this; omega
    clear h1 h2
    go_enter Try.func96, Try.ntmps96
    go_wp2_with (first | (go_at_call 117; refine (l1Abs_any _ _).mono ?_; rintro e w' ⟨rfl, rfl⟩))
    refine bodyPost_ret (v := .tuple #[.agg #[.int .i64 0, .int .i64 0], .bool false]) (by simp only [results, Try.results96]; go_simp) rfl ⟨rfl, ?_⟩
    (repeat (first | with_reducible exact Below.refl _ _ | with_reducible assumption | (with_reducible refine below_drewN ?_ _) | (with_reducible refine Below.drew ?_) | (with_reducible refine Below.setCell ?_ (by first | omega | (simp; done) | (simp; omega)) _) | (with_reducible refine Below.alloc ?_ (by first | omega | (simp; done) | (simp; omega)) _) | refine Below.trans ?_ (Below.mono (by with_reducible assumption) (by first | omega | (simp; done) | (simp; omega)))))
  · have hh := h.out
    simp only [ofR, h1, h2, and_self, if_true] at hh
    have h5 : abs1 n ≤ 1000000000 := abs1_le.2 h1
    have h6 : abs1 d ≤ 1000000000 := abs1_le.2 h2
    obtain ⟨b1, b1'⟩ := within_iff.1 h1
    obtain ⟨b2, b2'⟩ := within_iff.1 h2
    by_cases hd : d < 0
    · have hm : mkz n d = mk (-n) (-d) := by unfold mkz; rw [if_neg h0, if_pos hd]
      have H := Lib.hid (hm.symm.trans hh)
      clear h hh h1 h2 hm
      go_enter Try.func96, Try.ntmps96
      go_wp2_with (first | (go_at_call 117; refine (l1Abs_any _ _).mono ?_; rintro e w' ⟨rfl, rfl⟩) | (go_at_call 118; refine (l1Least_any _ _ x y b H (by omega) (by omega) (by omega) (by omega) _).mono ?_; rintro e w1 ⟨rfl, hb1⟩; have hz1 := hb1.size; (try simp at hz1); have hB1 : Below w.heap.size w w1 := (by refine Below.trans ?_ (Below.mono hb1 (by first | omega | (simp; done) | (simp; omega))); (repeat (first | with_reducible exact Below.refl _ _ | with_reducible assumption | (with_reducible refine below_drewN ?_ _) | (with_reducible refine Below.drew ?_) | (with_reducible refine Below.setCell ?_ (by first | omega | (simp; done) | (simp; omega)) _) | (with_reducible refine Below.alloc ?_ (by first | omega | (simp; done) | (simp; omega)) _) | refine Below.trans ?_ (Below.mono (by with_reducible assumption) (by first | omega | (simp; done) | (simp; omega)))))); obtain ⟨kc_, fc_, lc_⟩ := keep_later (a := ⟨w.heap.size, 0, none⟩) (v := .int .i64 0) hb1 (by go_simp) (by go_simp); obtain ⟨kc_, fc_, lc_⟩ := keep_later (a := ⟨w.heap.size, 1, none⟩) (v := .int .i64 0) hb1 (by go_simp) (by go_simp); clear hb1))
      refine bodyPost_ret (v := .tuple #[.agg #[.int .i64 x, .int .i64 y], .bool b]) (by simp only [results, Try.results96]; go_simp) rfl ⟨rfl, ?_⟩
      (repeat (first | with_reducible exact Below.refl _ _ | with_reducible assumption | (with_reducible refine below_drewN ?_ _) | (with_reducible refine Below.drew ?_) | (with_reducible refine Below.setCell ?_ (by first | omega | (simp; done) | (simp; omega)) _) | (with_reducible refine Below.alloc ?_ (by first | omega | (simp; done) | (simp; omega)) _) | refine Below.trans ?_ (Below.mono (by with_reducible assumption) (by first | omega | (simp; done) | (simp; omega)))))
    · have hm : mkz n d = mk n d := by unfold mkz; rw [if_neg h0, if_neg hd]
      have H := Lib.hid (hm.symm.trans hh)
      clear h hh h1 h2 hm
      go_enter Try.func96, Try.ntmps96
      go_wp2_with (first | (go_at_call 117; refine (l1Abs_any _ _).mono ?_; rintro e w' ⟨rfl, rfl⟩) | (go_at_call 118; refine (l1Least_any _ _ x y b H (by omega) (by omega) (by omega) (by omega) _).mono ?_; rintro e w1 ⟨rfl, hb1⟩; have hz1 := hb1.size; (try simp at hz1); have hB1 : Below w.heap.size w w1 := (by refine Below.trans ?_ (Below.mono hb1 (by first | omega | (simp; done) | (simp; omega))); (repeat (first | with_reducible exact Below.refl _ _ | with_reducible assumption | (with_reducible refine below_drewN ?_ _) | (with_reducible refine Below.drew ?_) | (with_reducible refine Below.setCell ?_ (by first | omega | (simp; done) | (simp; omega)) _) | (with_reducible refine Below.alloc ?_ (by first | omega | (simp; done) | (simp; omega)) _) | refine Below.trans ?_ (Below.mono (by with_reducible assumption) (by first | omega | (simp; done) | (simp; omega)))))); obtain ⟨kc_, fc_, lc_⟩ := keep_later (a := ⟨w.heap.size, 0, none⟩) (v := .int .i64 0) hb1 (by go_simp) (by go_simp); obtain ⟨kc_, fc_, lc_⟩ := keep_later (a := ⟨w.heap.size, 1, none⟩) (v := .int .i64 0) hb1 (by go_simp) (by go_simp); clear hb1))
      refine bodyPost_ret (v := .tuple #[.agg #[.int .i64 x, .int .i64 y], .bool b]) (by simp only [results, Try.results96]; go_simp) rfl ⟨rfl, ?_⟩
      (repeat (first | with_reducible exact Below.refl _ _ | with_reducible assumption | (with_reducible refine below_drewN ?_ _) | (with_reducible refine Below.drew ?_) | (with_reducible refine Below.setCell ?_ (by first | omega | (simp; done) | (simp; omega)) _) | (with_reducible refine Below.alloc ?_ (by first | omega | (simp; done) | (simp; omega)) _) | refine Below.trans ?_ (Below.mono (by with_reducible assumption) (by first | omega | (simp; done) | (simp; omega)))))

theorem sRatAdd_any(a b c d : Int) (x y : Int) (t : Bool) (h : Hid (addR a b c d = (x, y, t))) (w : World) :
    Calls Try.prog 116 #[.agg #[.int .i64 a, .int .i64 b], .agg #[.int .i64 c, .int .i64 d]] w fun e w' => e = .returned (.tuple #[.agg #[.int .i64 x, .int .i64 y], .bool t]) ∧ Below w.heap.size w w' := by
  cases h1 : ratOk a b
  · have hh := h.out
    simp only [addR, h1, Bool.false_eq_true, false_and, if_false] at hh
    obtain ⟨rfl, rfl, rfl⟩ := no3 hh
    clear h hh
    go_enter Try.func116, Try.ntmps116
    go_wp2_with (first | (go_at_call 100; refine (sRatOk_any _ _ _).mono ?_; rintro e w1 ⟨rfl, hb1⟩; have hz1 := hb1.size; (try simp at hz1); have hB1 : Below w.heap.size w w1 := (by refine Below.trans ?_ (Below.mono hb1 (by first | omega | (simp; done) | (simp; omega))); (repeat (first | with_reducible exact Below.refl _ _ | with_reducible assumption | (with_reducible refine below_drewN ?_ _) | (with_reducible refine Below.drew ?_) | (with_reducible refine Below.setCell ?_ (by first | omega | (simp; done) | (simp; omega)) _) | (with_reducible refine Below.alloc ?_ (by first | omega | (simp; done) | (simp; omega)) _) | refine Below.trans ?_ (Below.mono (by with_reducible assumption) (by first | omega | (simp; done) | (simp; omega)))))); obtain ⟨kc_, fc_, lc_⟩ := keep_later (a := ⟨w.heap.size, 0, none⟩) (v := .int .i64 a) hb1 (by go_simp) (by go_simp); obtain ⟨kc_, fc_, lc_⟩ := keep_later (a := ⟨w.heap.size, 1, none⟩) (v := .int .i64 b) hb1 (by go_simp) (by go_simp); obtain ⟨kc_, fc_, lc_⟩ := keep_later (a := ⟨w.heap.size+1, 0, none⟩) (v := .int .i64 c) hb1 (by go_simp) (by go_simp); obtain ⟨kc_, fc_, lc_⟩ := keep_later (a := ⟨w.heap.size+1, 1, none⟩) (v := .int .i64 d) hb1 (by go_simp) (by go_simp); obtain ⟨kc_, fc_, lc_⟩ := keep_later (a := ⟨w.heap.size+1+1, 0, none⟩) (v := .int .i64 0) hb1 (by go_simp) (by go_simp); obtain ⟨kc_, fc_, lc_⟩ := keep_later (a := ⟨w.heap.size+1+1, 1, none⟩) (v := .int .i64 0) hb1 (by go_simp) (by go_simp); clear hb1))
    refine bodyPost_ret (v := .tuple #[.agg #[.int .i64 0, .int .i64 0], .bool false]) (by simp only [results, Try.results116]; go_simp) rfl ⟨rfl, ?_⟩
    (repeat (first | with_reducible exact Below.refl _ _ | with_reducible assumption | (with_reducible refine below_drewN ?_ _) | (with_reducible refine Below.drew ?_) | (with_reducible refine Below.setCell ?_ (by first | omega | (simp; done) | (simp; omega)) _) | (with_reducible refine Below.alloc ?_ (by first | omega | (simp; done) | (simp; omega)) _) | refine Below.trans ?_ (Below.mono (by with_reducible assumption) (by first | omega | (simp; done) | (simp; omega)))))
  cases h2 : ratOk c d
  · have hh := h.out
    simp only [addR, h1, h2, Bool.false_eq_true, and_false, if_false] at hh
    obtain ⟨rfl, rfl, rfl⟩ := no3 hh
    clear h hh
    go_enter Try.func116, Try.ntmps116
    go_wp2_with (first | (go_at_call 100; refine (sRatOk_any _ _ _).mono ?_; rintro e w1 ⟨rfl, hb1⟩; have hz1 := hb1.size; (try simp at hz1); have hB1 : Below w.heap.size w w1 := (by refine Below.trans ?_ (Below.mono hb1 (by first | omega | (simp; done) | (simp; omega))); (repeat (first | with_reducible exact Below.refl _ _ | with_reducible assumption | (with_reducible refine below_drewN ?_ _) | (with_reducible refine Below.drew ?_) | (with_reducible refine Below.setCell ?_ (by first | omega | (simp; done) | (simp; omega)) _) | (with_reducible refine Below.alloc ?_ (by first | omega | (simp; done) | (simp; omega)) _) | refine Below.trans ?_ (Below.mono (by with_reducible assumption) (by first | omega | (simp; done) | (simp; omega)))))); obtain ⟨kc_, fc_, lc_⟩ := keep_later (a := ⟨w.heap.size, 0, none⟩) (v := .int .i64 a) hb1 (by go_simp) (by go_simp); obtain ⟨kc_, fc_, lc_⟩ := keep_later (a := ⟨w.heap.size, 1, none⟩) (v := .int .i64 b) hb1 (by go_simp) (by go_simp); obtain ⟨kc_, fc_, lc_⟩ := keep_later (a := ⟨w.heap.size+1, 0, none⟩) (v := .int .i64 c) hb1 (by go_simp) (by go_simp); obtain ⟨kc_, fc_, lc_⟩ := keep_later (a := ⟨w.heap.size+1, 1, none⟩) (v := .int .i64 d) hb1 (by go_simp) (by go_simp); obtain ⟨kc_, fc_, lc_⟩ := keep_later (a := ⟨w.heap.size+1+1, 0, none⟩) (v := .int .i64 0) hb1 (by go_simp) (by go_simp); obtain ⟨kc_, fc_, lc_⟩ := keep_later (a := ⟨w.heap.size+1+1, 1, none⟩) (v := .int .i64 0) hb1 (by go_simp) (by go_simp); clear hb1))
    refine bodyPost_ret (v := .tuple #[.agg #[.int .i64 0, .int .i64 0], .bool false]) (by simp only [results, Try.results116]; go_simp) rfl ⟨rfl, ?_⟩
    (repeat (first | with_reducible exact Below.refl _ _ | with_reducible assumption | (with_reducible refine below_drewN ?_ _) | (with_reducible refine Below.drew ?_) | (with_reducible refine Below.setCell ?_ (by first | omega | (simp; done) | (simp; omega)) _) | (with_reducible refine Below.alloc ?_ (by first | omega | (simp; done) | (simp; omega)) _) | refine Below.trans ?_ (Below.mono (by with_reducible assumption) (by first | omega | (simp; done) | (simp; omega)))))
  · have hh := h.out
    simp only [addR, h1, h2, and_self, if_true] at hh
    obtain ⟨⟨a1, a2⟩, ⟨b1, b2⟩, _⟩ := ratOk_iff.1 h1
    obtain ⟨⟨c1, c2⟩, ⟨d1, d2⟩, _⟩ := ratOk_iff.1 h2
    obtain ⟨p1, p2⟩ := mul_bd a1 a2 (d := d) (by omega) d2
    obtain ⟨p3, p4⟩ := mul_bd c1 c2 (d := b) (by omega) b2
    obtain ⟨p5, p6⟩ := mul_bd1 b1 b2 d1 d2
    obtain ⟨p7, p8⟩ := mul_bd2 a1 a2 c1 c2
    have H := Lib.hid hh
    have H' := Lib.hid ((mkz_pos (by omega)).trans hh)
    clear h hh
    go_enter Try.func116, Try.ntmps116
    go_wp2_with (first | (go_at_call 100; refine (sRatOk_any _ _ _).mono ?_; rintro e w1 ⟨rfl, hb1⟩; have hz1 := hb1.size; (try simp at hz1); have hB1 : Below w.heap.size w w1 := (by refine Below.trans ?_ (Below.mono hb1 (by first | omega | (simp; done) | (simp; omega))); (repeat (first | with_reducible exact Below.refl _ _ | with_reducible assumption | (with_reducible refine below_drewN ?_ _) | (with_reducible refine Below.drew ?_) | (with_reducible refine Below.setCell ?_ (by first | omega | (simp; done) | (simp; omega)) _) | (with_reducible refine Below.alloc ?_ (by first | omega | (simp; done) | (simp; omega)) _) | refine Below.trans ?_ (Below.mono (by with_reducible assumption) (by first | omega | (simp; done) | (simp; omega)))))); obtain ⟨kc_, fc_, lc_⟩ := keep_later (a := ⟨w.heap.size, 0, none⟩) (v := .int .i64 a) hb1 (by go_simp) (by go_simp); obtain ⟨kc_, fc_, lc_⟩ := keep_later (a := ⟨w.heap.size, 1, none⟩) (v := .int .i64 b) hb1 (by go_simp) (by go_simp); obtain ⟨kc_, fc_, lc_⟩ := keep_later (a := ⟨w.heap.size+1, 0, none⟩) (v := .int .i64 c) hb1 (by go_simp) (by go_simp); obtain ⟨kc_, fc_, lc_⟩ := keep_later (a := ⟨w.heap.size+1, 1, none⟩) (v := .int .i64 d) hb1 (by go_simp) (by go_simp); obtain ⟨kc_, fc_, lc_⟩ := keep_later (a := ⟨w.heap.size+1+1, 0, none⟩) (v := .int .i64 0) hb1 (by go_simp) (by go_simp); obtain ⟨kc_, fc_, lc_⟩ := keep_later (a := ⟨w.heap.size+1+1, 1, none⟩) (v := .int .i64 0) hb1 (by go_simp) (by go_simp); clear hb1) | (go_at_call 118; refine (l1Least_any _ _ x y t H (by omega) (by omega) (by omega) (by omega) _).mono ?_; rintro e w1 ⟨rfl, hb1⟩; have hz1 := hb1.size; (try simp at hz1); have hB1 : Below w.heap.size w w1 := (by refine Below.trans ?_ (Below.mono hb1 (by first | omega | (simp; done) | (simp; omega))); (repeat (first | with_reducible exact Below.refl _ _ | with_reducible assumption | (with_reducible refine below_drewN ?_ _) | (with_reducible refine Below.drew ?_) | (with_reducible refine Below.setCell ?_ (by first | omega | (simp; done) | (simp; omega)) _) | (with_reducible refine Below.alloc ?_ (by first | omega | (simp; done) | (simp; omega)) _) | refine Below.trans ?_ (Below.mono (by with_reducible assumption) (by first | omega | (simp; done) | (simp; omega)))))); obtain ⟨kc_, fc_, lc_⟩ := keep_later (a := ⟨w.heap.size+1+1, 0, none⟩) (v := .int .i64 0) hb1 (by go_simp) (by go_simp); obtain ⟨kc_, fc_, lc_⟩ := keep_later (a := ⟨w.heap.size+1+1, 1, none⟩) (v := .int .i64 0) hb1 (by go_simp) (by go_simp); clear hb1))
    refine bodyPost_ret (v := .tuple #[.agg #[.int .i64 x, .int .i64 y], .bool t]) (by simp only [results, Try.results116]; go_simp) rfl ⟨rfl, ?_⟩
    (repeat (first | with_reducible exact Below.refl _ _ | with_reducible assumption | (with_reducible refine below_drewN ?_ _) | (with_reducible refine Below.drew ?_) | (with_reducible refine Below.setCell ?_ (by first | omega | (simp; done) | (simp; omega)) _) | (with_reducible refine Below.alloc ?_ (by first | omega | (simp; done) | (simp; omega)) _) | refine Below.trans ?_ (Below.mono (by with_reducible assumption) (by first | omega | (simp; done) | (simp; omega)))))

theorem sRatMul_any(a b c d : Int) (x y : Int) (t : Bool) (h : Hid (mulR a b c d = (x, y, t))) (w : World) :
    Calls Try.prog 120 #[.agg #[.int .i64 a, .int .i64 b], .agg #[.int .i64 c, .int .i64 d]] w fun e w' => e = .returned (.tuple #[.agg #[.int .i64 x, .int .i64 y], .bool t]) ∧ Below w.heap.size w w' := by
  cases h1 : ratOk a b
  · have hh := h.out
    simp only [mulR, h1, Bool.false_eq_true, false_and, if_false] at hh
    obtain ⟨rfl, rfl, rfl⟩ := no3 hh
    clear h hh
    go_enter Try.func120, Try.ntmps120
    go_wp2_with (first | (go_at_call 100; refine (sRatOk_any _ _ _).mono ?_; rintro e w1 ⟨rfl, hb1⟩; have hz1 := hb1.size; (try simp at hz1); have hB1 : Below w.heap.size w w1 := (by refine Below.trans ?_ (Below.mono hb1 (by first | omega | (simp; done) | (simp; omega))); (repeat (first | with_reducible exact Below.refl _ _ | with_reducible assumption | (with_reducible refine below_drewN ?_ _) | (with_reducible refine Below.drew ?_) | (with_reducible refine Below.setCell ?_ (by first | omega | (simp; done) | (simp; omega)) _) | (with_reducible refine Below.alloc ?_ (by first | omega | (simp; done) | (simp; omega)) _) | refine Below.trans ?_ (Below.mono (by with_reducible assumption) (by first | omega | (simp; done) | (simp; omega)))))); obtain ⟨kc_, fc_, lc_⟩ := keep_later (a := ⟨w.heap.size, 0, none⟩) (v := .int .i64 a) hb1 (by go_simp) (by go_simp); obtain ⟨kc_, fc_, lc_⟩ := keep_later (a := ⟨w.heap.size, 1, none⟩) (v := .int .i64 b) hb1 (by go_simp) (by go_simp); obtain ⟨kc_, fc_, lc_⟩ := keep_later (a := ⟨w.heap.size+1, 0, none⟩) (v := .int .i64 c) hb1 (by go_simp) (by go_simp); obtain ⟨kc_, fc_, lc_⟩ := keep_later (a := ⟨w.heap.size+1, 1, none⟩) (v := .int .i64 d) hb1 (by go_simp) (by go_simp); obtain ⟨kc_, fc_, lc_⟩ := keep_later (a := ⟨w.heap.size+1+1, 0, none⟩) (v := .int .i64 0) hb1 (by go_simp) (by go_simp); obtain ⟨kc_, fc_, lc_⟩ := keep_later (a := ⟨w.heap.size+1+1, 1, none⟩) (v := .int .i64 0) hb1 (by go_simp) (by go_simp); clear hb1))
    refine bodyPost_ret (v := .tuple #[.agg #[.int .i64 0, .int .i64 0], .bool false]) (by simp only [results, Try.results120]; go_simp) rfl ⟨rfl, ?_⟩
    (repeat (first | with_reducible exact Below.refl _ _ | with_reducible assumption | (with_reducible refine below_drewN ?_ _) | (with_reducible refine Below.drew ?_) | (with_reducible refine Below.setCell ?_ (by first | omega | (simp; done) | (simp; omega)) _) | (with_reducible refine Below.alloc ?_ (by first | omega | (simp; done) | (simp; omega)) _) | refine Below.trans ?_ (Below.mono (by with_reducible assumption) (by first | omega | (simp; done) | (simp; omega)))))
  cases h2 : ratOk c d
  · have hh := h.out
    simp only [mulR, h1, h2, Bool.false_eq_true, and_false, if_false] at hh
    obtain ⟨rfl, rfl, rfl⟩ := no3 hh
    clear h hh
    go_enter Try.func120, Try.ntmps120
    go_wp2_with (first | (go_at_call 100; refine (sRatOk_any _ _ _).mono ?_; rintro e w1 ⟨rfl, hb1⟩; have hz1 := hb1.size; (try simp at hz1); have hB1 : Below w.heap.size w w1 := (by refine Below.trans ?_ (Below.mono hb1 (by first | omega | (simp; done) | (simp; omega))); (repeat (first | with_reducible exact Below.refl _ _ | with_reducible assumption | (with_reducible refine below_drewN ?_ _) | (with_reducible refine Below.drew ?_) | (with_reducible refine Below.setCell ?_ (by first | omega | (simp; done) | (simp; omega)) _) | (with_reducible refine Below.alloc ?_ (by first | omega | (simp; done) | (simp; omega)) _) | refine Below.trans ?_ (Below.mono (by with_reducible assumption) (by first | omega | (simp; done) | (simp; omega)))))); obtain ⟨kc_, fc_, lc_⟩ := keep_later (a := ⟨w.heap.size, 0, none⟩) (v := .int .i64 a) hb1 (by go_simp) (by go_simp); obtain ⟨kc_, fc_, lc_⟩ := keep_later (a := ⟨w.heap.size, 1, none⟩) (v := .int .i64 b) hb1 (by go_simp) (by go_simp); obtain ⟨kc_, fc_, lc_⟩ := keep_later (a := ⟨w.heap.size+1, 0, none⟩) (v := .int .i64 c) hb1 (by go_simp) (by go_simp); obtain ⟨kc_, fc_, lc_⟩ := keep_later (a := ⟨w.heap.size+1, 1, none⟩) (v := .int .i64 d) hb1 (by go_simp) (by go_simp); obtain ⟨kc_, fc_, lc_⟩ := keep_later (a := ⟨w.heap.size+1+1, 0, none⟩) (v := .int .i64 0) hb1 (by go_simp) (by go_simp); obtain ⟨kc_, fc_, lc_⟩ := keep_later (a := ⟨w.heap.size+1+1, 1, none⟩) (v := .int .i64 0) hb1 (by go_simp) (by go_simp); clear hb1))
    refine bodyPost_ret (v := .tuple #[.agg #[.int .i64 0, .int .i64 0], .bool false]) (by simp only [results, Try.results120]; go_simp) rfl ⟨rfl, ?_⟩
    (repeat (first | with_reducible exact Below.refl _ _ | with_reducible assumption | (with_reducible refine below_drewN ?_ _) | (with_reducible refine Below.drew ?_) | (with_reducible refine Below.setCell ?_ (by first | omega | (simp; done) | (simp; omega)) _) | (with_reducible refine Below.alloc ?_ (by first | omega | (simp; done) | (simp; omega)) _) | refine Below.trans ?_ (Below.mono (by with_reducible assumption) (by first | omega | (simp; done) | (simp; omega)))))
  · have hh := h.out
    simp only [mulR, h1, h2, and_self, if_true] at hh
    obtain ⟨⟨a1, a2⟩, ⟨b1, b2⟩, _⟩ := ratOk_iff.1 h1
    obtain ⟨⟨c1, c2⟩, ⟨d1, d2⟩, _⟩ := ratOk_iff.1 h2
    obtain ⟨p1, p2⟩ := mul_bd a1 a2 (d := d) (by omega) d2
    obtain ⟨p3, p4⟩ := mul_bd c1 c2 (d := b) (by omega) b2
    obtain ⟨p5, p6⟩ := mul_bd1 b1 b2 d1 d2
    obtain ⟨p7, p8⟩ := mul_bd2 a1 a2 c1 c2
    have H := Lib.hid hh
    have H' := Lib.hid ((mkz_pos (by omega)).trans hh)
    clear h hh
    go_enter Try.func120, Try.ntmps120
    go_wp2_with (first | (go_at_call 100; refine (sRatOk_any _ _ _).mono ?_; rintro e w1 ⟨rfl, hb1⟩; have hz1 := hb1.size; (try simp at hz1); have hB1 : Below w.heap.size w w1 := (by refine Below.trans ?_ (Below.mono hb1 (by first | omega | (simp; done) | (simp; omega))); (repeat (first | with_reducible exact Below.refl _ _ | with_reducible assumption | (with_reducible refine below_drewN ?_ _) | (with_reducible refine Below.drew ?_) | (with_reducible refine Below.setCell ?_ (by first | omega | (simp; done) | (simp; omega)) _) | (with_reducible refine Below.alloc ?_ (by first | omega | (simp; done) | (simp; omega)) _) | refine Below.trans ?_ (Below.mono (by with_reducible assumption) (by first | omega | (simp; done) | (simp; omega)))))); obtain ⟨kc_, fc_, lc_⟩ := keep_later (a := ⟨w.heap.size, 0, none⟩) (v := .int .i64 a) hb1 (by go_simp) (by go_simp); obtain ⟨kc_, fc_, lc_⟩ := keep_later (a := ⟨w.heap.size, 1, none⟩) (v := .int .i64 b) hb1 (by go_simp) (by go_simp); obtain ⟨kc_, fc_, lc_⟩ := keep_later (a := ⟨w.heap.size+1, 0, none⟩) (v := .int .i64 c) hb1 (by go_simp) (by go_simp); obtain ⟨kc_, fc_, lc_⟩ := keep_later (a := ⟨w.heap.size+1, 1, none⟩) (v := .int .i64 d) hb1 (by go_simp) (by go_simp); obtain ⟨kc_, fc_, lc_⟩ := keep_later (a := ⟨w.heap.size+1+1, 0, none⟩) (v := .int .i64 0) hb1 (by go_simp) (by go_simp); obtain ⟨kc_, fc_, lc_⟩ := keep_later (a := ⟨w.heap.size+1+1, 1, none⟩) (v := .int .i64 0) hb1 (by go_simp) (by go_simp); clear hb1) | (go_at_call 118; refine (l1Least_any _ _ x y t H (by omega) (by omega) (by omega) (by omega) _).mono ?_; rintro e w1 ⟨rfl, hb1⟩; have hz1 := hb1.size; (try simp at hz1); have hB1 : Below w.heap.size w w1 := (by refine Below.trans ?_ (Below.mono hb1 (by first | omega | (simp; done) | (simp; omega))); (repeat (first | with_reducible exact Below.refl _ _ | with_reducible assumption | (with_reducible refine below_drewN ?_ _) | (with_reducible refine Below.drew ?_) | (with_reducible refine Below.setCell ?_ (by first | omega | (simp; done) | (simp; omega)) _) | (with_reducible refine Below.alloc ?_ (by first | omega | (simp; done) | (simp; omega)) _) | refine Below.trans ?_ (Below.mono (by with_reducible assumption) (by first | omega | (simp; done) | (simp; omega)))))); obtain ⟨kc_, fc_, lc_⟩ := keep_later (a := ⟨w.heap.size+1+1, 0, none⟩) (v := .int .i64 0) hb1 (by go_simp) (by go_simp); obtain ⟨kc_, fc_, lc_⟩ := keep_later (a := ⟨w.heap.size+1+1, 1, none⟩) (v := .int .i64 0) hb1 (by go_simp) (by go_simp); clear hb1))
    refine bodyPost_ret (v := .tuple #[.agg #[.int .i64 x, .int .i64 y], .bool t]) (by simp only [results, Try.results120]; go_simp) rfl ⟨rfl, ?_⟩
    (repeat (first | with_reducible exact Below.refl _ _ | with_reducible assumption | (with_reducible refine below_drewN ?_ _) | (with_reducible refine Below.drew ?_) | (with_reducible refine Below.setCell ?_ (by first | omega | (simp; done) | (simp; omega)) _) | (with_reducible refine Below.alloc ?_ (by first | omega | (simp; done) | (simp; omega)) _) | refine Below.trans ?_ (Below.mono (by with_reducible assumption) (by first | omega | (simp; done) | (simp; omega)))))

theorem sRatLess_any(a b c d : Int) (w : World) :
    Calls Try.prog 99 #[.agg #[.int .i64 a, .int .i64 b], .agg #[.int .i64 c, .int .i64 d]] w fun e w' => e = .returned (.bool (lessR a b c d)) ∧ Below w.heap.size w w' := by
  cases h1 : ratOk a b
  · have hr : lessR a b c d = false := by simp [lessR, h1]
    rw [hr]
    go_enter Try.func99, Try.ntmps99
    go_wp2_with (first | (go_at_call 100; refine (sRatOk_any _ _ _).mono ?_; rintro e w1 ⟨rfl, hb1⟩; have hz1 := hb1.size; (try simp at hz1); have hB1 : Below w.heap.size w w1 := (by refine Below.trans ?_ (Below.mono hb1 (by first | omega | (simp; done) | (simp; omega))); (repeat (first | with_reducible exact Below.refl _ _ | with_reducible assumption | (with_reducible refine below_drewN ?_ _) | (with_reducible refine Below.drew ?_) | (with_reducible refine Below.setCell ?_ (by first | omega | (simp; done) | (simp; omega)) _) | (with_reducible refine Below.alloc ?_ (by first | omega | (simp; done) | (simp; omega)) _) | refine Below.trans ?_ (Below.mono (by with_reducible assumption) (by first | omega | (simp; done) | (simp; omega)))))); obtain ⟨kc_, fc_, lc_⟩ := keep_later (a := ⟨w.heap.size, 0, none⟩) (v := .int .i64 a) hb1 (by go_simp) (by go_simp); obtain ⟨kc_, fc_, lc_⟩ := keep_later (a := ⟨w.heap.size, 1, none⟩) (v := .int .i64 b) hb1 (by go_simp) (by go_simp); obtain ⟨kc_, fc_, lc_⟩ := keep_later (a := ⟨w.heap.size+1, 0, none⟩) (v := .int .i64 c) hb1 (by go_simp) (by go_simp); obtain ⟨kc_, fc_, lc_⟩ := keep_later (a := ⟨w.heap.size+1, 1, none⟩) (v := .int .i64 d) hb1 (by go_simp) (by go_simp); clear hb1))
    go_ret
    exact ⟨rfl, by (repeat (first | with_reducible exact Below.refl _ _ | with_reducible assumption | (with_reducible refine below_drewN ?_ _) | (with_reducible refine Below.drew ?_) | (with_reducible refine Below.setCell ?_ (by first | omega | (simp; done) | (simp; omega)) _) | (with_reducible refine Below.alloc ?_ (by first | omega | (simp; done) | (simp; omega)) _) | refine Below.trans ?_ (Below.mono (by with_reducible assumption) (by first | omega | (simp; done) | (simp; omega)))))⟩
  cases h2 : ratOk c d
  · have hr : lessR a b c d = false := by simp [lessR, h1, h2]
    rw [hr]
    go_enter Try.func99, Try.ntmps99
    go_wp2_with (first | (go_at_call 100; refine (sRatOk_any _ _ _).mono ?_; rintro e w1 ⟨rfl, hb1⟩; have hz1 := hb1.size; (try simp at hz1); have hB1 : Below w.heap.size w w1 := (by refine Below.trans ?_ (Below.mono hb1 (by first | omega | (simp; done) | (simp; omega))); (repeat (first | with_reducible exact Below.refl _ _ | with_reducible assumption | (with_reducible refine below_drewN ?_ _) | (with_reducible refine Below.drew ?_) | (with_reducible refine Below.setCell ?_ (by first | omega | (simp; done) | (simp; omega)) _) | (with_reducible refine Below.alloc ?_ (by first | omega | (simp; done) | (simp; omega)) _) | refine Below.trans ?_ (Below.mono (by with_reducible assumption) (by first | omega | (simp; done) | (simp; omega)))))); obtain ⟨kc_, fc_, lc_⟩ := keep_later (a := ⟨w.heap.size, 0, none⟩) (v := .int .i64 a) hb1 (by go_simp) (by go_simp); obtain ⟨kc_, fc_, lc_⟩ := keep_later (a := ⟨w.heap.size, 1, none⟩) (v := .int .i64 b) hb1 (by go_simp) (by go_simp); obtain ⟨kc_, fc_, lc_⟩ := keep_later (a := ⟨w.heap.size+1, 0, none⟩) (v := .int .i64 c) hb1 (by go_simp) (by go_simp); obtain ⟨kc_, fc_, lc_⟩ := keep_later (a := ⟨w.heap.size+1, 1, none⟩) (v := .int .i64 d) hb1 (by go_simp) (by go_simp); clear hb1))
    go_ret
    exact ⟨rfl, by (repeat (first | with_reducible exact Below.refl _ _ | with_reducible assumption | (with_reducible refine below_drewN ?_ _) | (with_reducible refine Below.drew ?_) | (with_reducible refine Below.setCell ?_ (by first | omega | (simp; done) | (simp; omega)) _) | (with_reducible refine Below.alloc ?_ (by first | omega | (simp; done) | (simp; omega)) _) | refine Below.trans ?_ (Below.mono (by with_reducible assumption) (by first | omega | (simp; done) | (simp; omega)))))⟩
  · have hr : lessR a b c d = decide (a * d < c * b) := by simp [lessR, h1, h2]
    rw [hr]
    obtain ⟨⟨a1, a2⟩, ⟨b1, b2⟩, _⟩ := ratOk_iff.1 h1
    obtain ⟨⟨c1, c2⟩, ⟨d1, d2⟩, _⟩ := ratOk_iff.1 h2
    obtain ⟨p1, p2⟩ := mul_bd a1 a2 (d := d) (by omega) d2
    obtain ⟨p3, p4⟩ := mul_bd c1 c2 (d := b) (by omega) b2
    go_enter Try.func99, Try.ntmps99
    go_wp2_with (first | (go_at_call 100; refine (sRatOk_any _ _ _).mono ?_; rintro e w1 ⟨rfl, hb1⟩; have hz1 := hb1.size; (try simp at hz1); have hB1 : Below w.heap.size w w1 := (by refine Below.trans ?_ (Below.mono hb1 (by first | omega | (simp; done) | (simp; omega))); (repeat (first | with_reducible exact Below.refl _ _ | with_reducible assumption | (with_reducible refine below_drewN ?_ _) | (with_reducible refine Below.drew ?_) | (with_reducible refine Below.setCell ?_ (by first | omega | (simp; done) | (simp; omega)) _) | (with_reducible refine Below.alloc ?_ (by first | omega | (simp; done) | (simp; omega)) _) | refine Below.trans ?_ (Below.mono (by with_reducible assumption) (by first | omega | (simp; done) | (simp; omega)))))); obtain ⟨kc_, fc_, lc_⟩ := keep_later (a := ⟨w.heap.size, 0, none⟩) (v := .int .i64 a) hb1 (by go_simp) (by go_simp); obtain ⟨kc_, fc_, lc_⟩ := keep_later (a := ⟨w.heap.size, 1, none⟩) (v := .int .i64 b) hb1 (by go_simp) (by go_simp); obtain ⟨kc_, fc_, lc_⟩ := keep_later (a := ⟨w.heap.size+1, 0, none⟩) (v := .int .i64 c) hb1 (by go_simp) (by go_simp); obtain ⟨kc_, fc_, lc_⟩ := keep_later (a := ⟨w.heap.size+1, 1, none⟩) (v := .int .i64 d) hb1 (by go_simp) (by go_simp); clear hb1))
    go_ret
    exact ⟨rfl, by (repeat (first | with_reducible exact Below.refl _ _ | with_reducible assumption | (with_reducible refine below_drewN ?_ _) | (with_reducible refine Below.drew ?_) | (with_reducible refine Below.setCell ?_ (by first | omega | (simp; done) | (simp; omega)) _) | (with_reducible refine Below.alloc ?_ (by first | omega | (simp; done) | (simp; omega)) _) | refine Below.trans ?_ (Below.mono (by with_reducible assumption) (by first | omega | (simp; done) | (simp; omega)))))⟩

theorem sRatMid_any(a b c d : Int) (x y : Int) (t : Bool) (h : Hid (midR a b c d = (x, y, t))) (w : World) :
    Calls Try.prog 115 #[.agg #[.int .i64 a, .int .i64 b], .agg #[.int .i64 c, .int .i64 d]] w fun e w' => e = .returned (.tuple #[.agg #[.int .i64 x, .int .i64 y], .bool t]) ∧ Below w.heap.size w w' := by
  obtain ⟨p, q, u, h1⟩ : ∃ p q u, addR a b c d = (p, q, u) := ⟨_, _, _, rfl⟩
  have hh := h.out
  simp only [midR, h1] at hh
  have H1 := Lib.hid h1
  clear h h1
  cases u
  · obtain ⟨rfl, rfl, rfl⟩ := no3 hh
    clear hh
    go_enter Try.func115, Try.ntmps115
    go_wp2_with (first | (go_at_call 116; refine (sRatAdd_any _ _ _ _ _ _ _ H1 _).mono ?_; rintro e w1 ⟨rfl, hb1⟩; have hz1 := hb1.size; (try simp at hz1); have hB1 : Below w.heap.size w w1 := (by refine Below.trans ?_ (Below.mono hb1 (by first | omega | (simp; done) | (simp; omega))); (repeat (first | with_reducible exact Below.refl _ _ | with_reducible assumption | (with_reducible refine below_drewN ?_ _) | (with_reducible refine Below.drew ?_) | (with_reducible refine Below.setCell ?_ (by first | omega | (simp; done) | (simp; omega)) _) | (with_reducible refine Below.alloc ?_ (by first | omega | (simp; done) | (simp; omega)) _) | refine Below.trans ?_ (Below.mono (by with_reducible assumption) (by first | omega | (simp; done) | (simp; omega)))))); obtain ⟨kc_, fc_, lc_⟩ := keep_later (a := ⟨w.heap.size+1+1, 0, none⟩) (v := .int .i64 0) hb1 (by go_simp) (by go_simp); obtain ⟨kc_, fc_, lc_⟩ := keep_later (a := ⟨w.heap.size+1+1, 1, none⟩) (v := .int .i64 0) hb1 (by go_simp) (by go_simp); clear hb1))
    refine bodyPost_ret (v := .tuple #[.agg #[.int .i64 0, .int .i64 0], .bool false]) (by simp only [results, Try.results115]; go_simp) rfl ⟨rfl, ?_⟩
    (repeat (first | with_reducible exact Below.refl _ _ | with_reducible assumption | (with_reducible refine below_drewN ?_ _) | (with_reducible refine Below.drew ?_) | (with_reducible refine Below.setCell ?_ (by first | omega | (simp; done) | (simp; omega)) _) | (with_reducible refine Below.alloc ?_ (by first | omega | (simp; done) | (simp; omega)) _) | refine Below.trans ?_ (Below.mono (by with_reducible assumption) (by first | omega | (simp; done) | (simp; omega)))))
  · have H2 := Lib.hid hh
    clear hh
    go_enter Try.func115, Try.ntmps115
    go_wp2_with (first | (go_at_call 116; refine (sRatAdd_any _ _ _ _ _ _ _ H1 _).mono ?_; rintro e w1 ⟨rfl, hb1⟩; have hz1 := hb1.size; (try simp at hz1); have hB1 : Below w.heap.size w w1 := (by refine Below.trans ?_ (Below.mono hb1 (by first | omega | (simp; done) | (simp; omega))); (repeat (first | with_reducible exact Below.refl _ _ | with_reducible assumption | (with_reducible refine below_drewN ?_ _) | (with_reducible refine Below.drew ?_) | (with_reducible refine Below.setCell ?_ (by first | omega | (simp; done) | (simp; omega)) _) | (with_reducible refine Below.alloc ?_ (by first | omega | (simp; done) | (simp; omega)) _) | refine Below.trans ?_ (Below.mono (by with_reducible assumption) (by first | omega | (simp; done) | (simp; omega)))))); obtain ⟨kc_, fc_, lc_⟩ := keep_later (a := ⟨w.heap.size+1+1, 0, none⟩) (v := .int .i64 0) hb1 (by go_simp) (by go_simp); obtain ⟨kc_, fc_, lc_⟩ := keep_later (a := ⟨w.heap.size+1+1, 1, none⟩) (v := .int .i64 0) hb1 (by go_simp) (by go_simp); clear hb1) | (go_at_call 120; refine (sRatMul_any _ _ _ _ _ _ _ H2 _).mono ?_; rintro e w1 ⟨rfl, hb1⟩; have hz1 := hb1.size; (try simp at hz1); have hB1 : Below w.heap.size w w1 := (by refine Below.trans ?_ (Below.mono hb1 (by first | omega | (simp; done) | (simp; omega))); (repeat (first | with_reducible exact Below.refl _ _ | with_reducible assumption | (with_reducible refine below_drewN ?_ _) | (with_reducible refine Below.drew ?_) | (with_reducible refine Below.setCell ?_ (by first | omega | (simp; done) | (simp; omega)) _) | (with_reducible refine Below.alloc ?_ (by first | omega | (simp; done) | (simp; omega)) _) | refine Below.trans ?_ (Below.mono (by with_reducible assumption) (by first | omega | (simp; done) | (simp; omega)))))); obtain ⟨kc_, fc_, lc_⟩ := keep_later (a := ⟨w.heap.size+1+1, 0, none⟩) (v := .int .i64 0) hb1 (by go_simp) (by go_simp); obtain ⟨kc_, fc_, lc_⟩ := keep_later (a := ⟨w.heap.size+1+1, 1, none⟩) (v := .int .i64 0) hb1 (by go_simp) (by go_simp); clear hb1))
    refine bodyPost_ret (v := .tuple #[.agg #[.int .i64 x, .int .i64 y], .bool t]) (by simp only [results, Try.results115]; go_simp) rfl ⟨rfl, ?_⟩
    (repeat (first | with_reducible exact Below.refl _ _ | with_reducible assumption | (with_reducible refine below_drewN ?_ _) | (with_reducible refine Below.drew ?_) | (with_reducible refine Below.setCell ?_ (by first | omega | (simp; done) | (simp; omega)) _) | (with_reducible refine Below.alloc ?_ (by first | omega | (simp; done) | (simp; omega)) _) | refine Below.trans ?_ (Below.mono (by with_reducible assumption) (by first | omega | (simp; done) | (simp; omega)))))

theorem eqRat_any (a b c d : Int) (w : World) :
    Calls Try.prog 74 #[.agg #[.int .i64 a, .int .i64 b], .agg #[.int .i64 c, .int .i64 d]] w fun e w' => e = .returned (.bool (a == c && b == d)) ∧ Below w.heap.size w w' := by
  by_cases h1 : a = c
  · by_cases h2 : b = d
    · subst h1 h2
      go_enter Try.func74, Try.ntmps74
      go_wp2
      go_ret
      exact ⟨by simp, by (repeat (first | with_reducible exact Below.refl _ _ | with_reducible assumption | (with_reducible refine below_drewN ?_ _) | (with_reducible refine Below.drew ?_) | (with_reducible refine Below.setCell ?_ (by first | omega | (simp; done) | (simp; omega)) _) | (with_reducible refine Below.alloc ?_ (by first | omega | (simp; done) | (simp; omega)) _) | refine Below.trans ?_ (Below.mono (by with_reducible assumption) (by first | omega | (simp; done) | (simp; omega)))))⟩
    · subst h1
      have h2' : (b == d) = false := by simpa using h2
      have h3' : (b != d) = true := by simpa using h2
      rw [h2', Bool.and_false]
      go_enter Try.func74, Try.ntmps74
      go_wp2
      go_ret
      exact ⟨rfl, by (repeat (first | with_reducible exact Below.refl _ _ | with_reducible assumption | (with_reducible refine below_drewN ?_ _) | (with_reducible refine Below.drew ?_) | (with_reducible refine Below.setCell ?_ (by first | omega | (simp; done) | (simp; omega)) _) | (with_reducible refine Below.alloc ?_ (by first | omega | (simp; done) | (simp; omega)) _) | refine Below.trans ?_ (Below.mono (by with_reducible assumption) (by first | omega | (simp; done) | (simp; omega)))))⟩
  · have h2' : (a == c) = false := by simpa using h1
    have h3' : (a != c) = true := by simpa using h1
    rw [h2', Bool.false_and]
    go_enter Try.func74, Try.ntmps74
    go_wp2
    go_ret
    exact ⟨rfl, by (repeat (first | with_reducible exact Below.refl _ _ | with_reducible assumption | (with_reducible refine below_drewN ?_ _) | (with_reducible refine Below.drew ?_) | (with_reducible refine Below.setCell ?_ (by first | omega | (simp; done) | (simp; omega)) _) | (with_reducible refine Below.alloc ?_ (by first | omega | (simp; done) | (simp; omega)) _) | refine Below.trans ?_ (Below.mono (by with_reducible assumption) (by first | omega | (simp; done) | (simp; omega)))))⟩
end Go.Proofs.Ytccjbipmlpnhkaa
