/- Contracts of the small functions on numbers and fractions. -/
import Derived.Test.YtccjbipmlpnhkaaRows
import Derived.Test.YtccjbipmlpnhkaaP
import Derived.WalkKit
import Derived.WalkSpells
import Derived.WalkLawsBesides
import Derived.Lib.Hide
import Derived.IntWalk
import Derived.BigQuiet
import Derived.Deep.QuietTactic
import Derived.Deep.LoopGhost
import Derived.Deep.RegionHeld3
import Derived.StillTailTactics
namespace Go.Proofs.Ytccjbipmlpnhkaa
set_option maxRecDepth 100000
open Go.RowKit
set_option linter.unusedSimpArgs false
set_option linter.unusedVariables false

theorem below_drewN {B : Nat} {a w : World} (h : Below B a w) (n : Nat) : Below B a (w.drewN n) := ⟨h.os, h.tape, h.output, h.size, h.block⟩
theorem bcell {W w1 : World} (hb : Below W.heap.size W w1) : (∀ b o, b < W.heap.size → w1.cell? ⟨b, o, none⟩ = W.cell? ⟨b, o, none⟩) ∧ (∀ b o, b < W.heap.size → w1.frozen? ⟨b, o, none⟩ = W.frozen? ⟨b, o, none⟩) :=
  ⟨fun b o h => hb.cell (p := ⟨b, o, none⟩) h, fun b o h => hb.frozen (p := ⟨b, o, none⟩) h⟩

/-- l1Gcd -/
theorem l1Gcd_any (a b : Int) (ha : 0 ≤ a) (hb : 0 ≤ b) (ha' : a ≤ 9223372036854775807) (hb' : b ≤ 9223372036854775807) (w : World) :
    Calls Try.prog 108 #[.int .i64 a, .int .i64 b] w fun e w' => e = .returned (.int .i64 (Int.gcd a b)) ∧ ∃ n, w' = w.drewN n := by
  go_enter Try.func108, Try.ntmps108
  go_wp2
  go_loopw [0, 1] (fun x y wr => ∃ p q n : Nat, x = .int .i64 p ∧ y = .int .i64 q ∧ (p:Int) ≤ 9223372036854775807 ∧ (q:Int) ≤ 9223372036854775807 ∧ Nat.gcd p q = Int.gcd a b ∧ wr = w.drewN n) (fun _ y _ => (intOf y).toNat)
  case atStart =>
    refine ⟨a.toNat, b.toNat, 0, ?_, ?_, ?_, ?_, ?_, ?_⟩
    · rw [Int.toNat_of_nonneg ha]
    · rw [Int.toNat_of_nonneg hb]
    · omega
    · omega
    · rw [Int.gcd]; congr 1 <;> omega
    · rfl
  case round =>
    obtain ⟨p, q, n, rfl, rfl, hp, hq, hg, rfl⟩ := hrel
    have HG := Lib.hid hg
    clear hg
    by_cases h0 : q = 0
    · subst h0
      go_wp2
      go_ret
      refine ⟨?_, n, rfl⟩
      have := HG.out
      rw [Nat.gcd_zero_right] at this
      rw [← this]
      rfl
    · have hq0 : 0 < q := by omega
      have hm : p % q < q := Nat.mod_lt _ hq0
      go_wp2
      go_quiet (fail)
      go_wp2
      refine ⟨⟨q, p % q, n + nq, rfl, by simp, hq, by omega, ?_, World.drewN_drewN ..⟩, ?_⟩
      · rw [← HG.out, Nat.gcd_comm p q, Nat.gcd_rec q p, Nat.gcd_comm]
      · simp only [intOf]; omega

theorem within_any (n lo hi : Int) (w : World) :
    Calls Try.prog 47 #[.int .i64 n, .int .i64 lo, .int .i64 hi] w fun e w' => e = .returned (.bool (within n lo hi)) ∧ w = w' := by
  unfold within
  by_cases h : lo ≤ n
  · go_enter Try.func47, Try.ntmps47
    go_wp2
    go_ret
    exact ⟨by simp [h], rfl⟩
  · go_enter Try.func47, Try.ntmps47
    go_wp2
    go_ret
    have h' : decide (lo ≤ n) = false := by simp; omega
    exact ⟨by rw [h']; rfl, rfl⟩

/-- gcd of impl -/
theorem gcd_any (a b : Int) (ha : -9223372036854775807 ≤ a) (hb : -9223372036854775807 ≤ b) (ha' : a ≤ 9223372036854775807) (hb' : b ≤ 9223372036854775807) (w : World) :
    Calls Try.prog 106 #[.int .i64 a, .int .i64 b] w fun e w' => e = .returned (.int .i64 (Int.gcd a b)) ∧ ∃ n, w' = w.drewN n := by
  go_enter Try.func106, Try.ntmps106
  go_wp2
  all_goals
    go_loopw [0, 1] (fun x y wr => ∃ p q n : Nat, x = .int .i64 p ∧ y = .int .i64 q ∧ (p:Int) ≤ 9223372036854775807 ∧ (q:Int) ≤ 9223372036854775807 ∧ Nat.gcd p q = Int.gcd a b ∧ wr = w.drewN n) (fun _ y _ => (intOf y).toNat)
    case atStart =>
      refine ⟨a.natAbs, b.natAbs, 0, ?_, ?_, ?_, ?_, ?_, ?_⟩
      · congr 1; omega
      · congr 1; omega
      · omega
      · omega
      · rfl
      · rfl
    case round =>
      obtain ⟨p, q, n, rfl, rfl, hp, hq, hg, rfl⟩ := hrel
      have HG := Lib.hid hg
      clear hg
      by_cases h0 : q = 0
      · subst h0
        go_wp2
        go_ret
        refine ⟨?_, n, rfl⟩
        have := HG.out
        rw [Nat.gcd_zero_right] at this
        rw [← this]
        rfl
      · have hq0 : 0 < q := by omega
        have hm : p % q < q := Nat.mod_lt _ hq0
        go_wp2
        go_quiet (fail)
        go_wp2
        refine ⟨⟨q, p % q, n + nq, rfl, by simp, hq, by omega, ?_, World.drewN_drewN ..⟩, ?_⟩
        · rw [← HG.out, Nat.gcd_comm p q, Nat.gcd_rec q p, Nat.gcd_comm]
        · simp only [intOf]; omega

/-- l1Abs -/
theorem l1Abs_any (n : Int) (w : World) :
    Calls Try.prog 117 #[.int .i64 n] w fun e w' => e = .returned (.int .i64 (abs1 n)) ∧ w = w' := by
  unfold abs1
  by_cases h1 : n < -1000000000
  · go_enter Try.func117, Try.ntmps117
    go_wp2
    go_ret
    exact ⟨by simp [h1], rfl⟩
  by_cases h2 : 1000000000 < n
  · go_enter Try.func117, Try.ntmps117
    go_wp2
    go_ret
    exact ⟨by simp [h1, h2], rfl⟩
  by_cases h3 : n < 0
  · go_enter Try.func117, Try.ntmps117
    go_wp2
    go_ret
    exact ⟨by simp [h1, h2, h3], rfl⟩
  · go_enter Try.func117, Try.ntmps117
    go_wp2
    go_ret
    exact ⟨by simp [h1, h2, h3], rfl⟩

theorem iRatOk_any (n d : Int) (w : World) :
    Calls Try.prog 91 #[.agg #[.int .i64 n, .int .i64 d]] w fun e w' => e = .returned (.bool (ratOk n d)) ∧ Below w.heap.size w w' := by
  cases h1 : within n (-1000000000) 1000000000
  · have hr : ratOk n d = false := by simp [ratOk, h1]
    rw [hr]
    go_enter Try.func91, Try.ntmps91
    go_wp2_with (first | (go_at_call 47; refine (within_any _ _ _ _).mono ?_; rintro e w' ⟨rfl, rfl⟩))
    go_ret
    exact ⟨rfl, (Below.refl _ _).alloc (Nat.le_refl _) _⟩
  cases h2 : within d 1 1000000000
  · have hr : ratOk n d = false := by simp [ratOk, h1, h2]
    rw [hr]
    go_enter Try.func91, Try.ntmps91
    go_wp2_with (first | (go_at_call 47; refine (within_any _ _ _ _).mono ?_; rintro e w' ⟨rfl, rfl⟩))
    go_ret
    exact ⟨rfl, (Below.refl _ _).alloc (Nat.le_refl _) _⟩
  · have hr : ratOk n d = decide ((Int.gcd n d : Int) = 1) := by simp [ratOk, h1, h2]; omega
    rw [hr]
    have b1 := within_iff.1 h1
    have b2 := within_iff.1 h2
    obtain ⟨b1, b1'⟩ := b1
    obtain ⟨b2, b2'⟩ := b2
    go_enter Try.func91, Try.ntmps91
    go_wp2_with (first | (go_at_call 47; refine (within_any _ _ _ _).mono ?_; rintro e w' ⟨rfl, rfl⟩) | (go_at_call 106; refine (gcd_any _ _ (by omega) (by omega) (by omega) (by omega) _).mono ?_; rintro e w' ⟨rfl, m, rfl⟩))
    go_ret
    refine ⟨?_, below_drewN ((Below.refl _ _).alloc (Nat.le_refl _) _) _⟩
    rfl

theorem quiet_same' {P : Program} {f : FuncId} {args : Array Value} {w : World} {n : Nat} {v : Value}
    (h : Calls P f args (w.drewN n) fun e w' => e = .returned v ∧ w.drewN n = w') : Calls P f args (w.drewN n) fun e w'' => e = .returned v ∧ ∃ m, w'' = w.drewN m :=
  h.mono fun _ _ ⟨he, hm⟩ => ⟨he, n, hm.symm⟩
theorem sRatOk_any (n d : Int) (w : World) :
    Calls Try.prog 100 #[.agg #[.int .i64 n, .int .i64 d]] w fun e w' => e = .returned (.bool (ratOk n d)) ∧ Below w.heap.size w w' := by
  by_cases h1 : abs1 n ≤ 1000000000
  · have hw := abs1_le.1 h1
    by_cases h2 : 1 ≤ d
    · by_cases h3 : d ≤ 1000000000
      · obtain ⟨b1, b1'⟩ := within_iff.1 hw
        have hr : ratOk n d = decide ((Int.gcd (abs1 n) d : Int) = 1) := by
          rw [gcd_abs n d _ (abs1_in b1 b1')]
          simp [ratOk, hw, within_iff.2 ⟨h2, h3⟩]; omega
        rw [hr]
        have c1 := abs1_lo n
        clear hw hr
        go_enter Try.func100, Try.ntmps100
        go_wp2
        go_quiet (first | (go_at_call 117; exact quiet_same' (l1Abs_any _ _)) | (go_at_call 108; exact Calls.quiet_of (l1Gcd_any _ _ (by omega) (by omega) (by omega) (by omega) _)))
        go_wp2
        go_ret
        exact ⟨rfl, below_drewN ((Below.refl _ _).alloc (Nat.le_refl _) _) _⟩
      · have hr : ratOk n d = false := by simp [ratOk, within, h3]
        rw [hr]
        have c1 := abs1_lo n
        clear hw hr
        have h3' : decide (d ≤ 1000000000) = false := by simpa using h3
        go_enter Try.func100, Try.ntmps100
        go_wp2
        go_quiet (first | (go_at_call 117; exact quiet_same' (l1Abs_any _ _)) | (go_at_call 108; exact Calls.quiet_of (l1Gcd_any _ _ (by omega) (by omega) (by omega) (by omega) _)))
        go_wp2
        go_ret
        exact ⟨rfl, below_drewN ((Below.refl _ _).alloc (Nat.le_refl _) _) _⟩
    · have hr : ratOk n d = false := by simp [ratOk, within, h2]
      rw [hr]
      have c1 := abs1_lo n
      clear hw hr
      have h3' : decide (1 ≤ d) = false := by simpa using h2
      go_enter Try.func100, Try.ntmps100
      go_wp2
      go_quiet (first | (go_at_call 117; exact quiet_same' (l1Abs_any _ _)) | (go_at_call 108; exact Calls.quiet_of (l1Gcd_any _ _ (by omega) (by omega) (by omega) (by omega) _)))
      go_wp2
      go_ret
      exact ⟨rfl, below_drewN ((Below.refl _ _).alloc (Nat.le_refl _) _) _⟩
  · have hr : ratOk n d = false := by
      cases hw : within n (-1000000000) 1000000000
      · simp [ratOk, hw]
      · exact absurd (abs1_le.2 hw) h1
    rw [hr]
    clear hr
    have h3' : decide (abs1 n ≤ 1000000000) = false := by simpa using h1
    go_enter Try.func100, Try.ntmps100
    go_wp2
    go_quiet (first | (go_at_call 117; exact quiet_same' (l1Abs_any _ _)) | (go_at_call 108; exact Calls.quiet_of (l1Gcd_any _ _ (by omega) (by omega) (by omega) (by omega) _)))
    go_wp2
    go_ret
    exact ⟨rfl, below_drewN ((Below.refl _ _).alloc (Nat.le_refl _) _) _⟩
end Go.Proofs.Ytccjbipmlpnhkaa
