/- Results of deciding are compared. -/
import Derived.Test.YtccjbipmlpnhkaaDu
import Derived.Test.YtccjbipmlpnhkaaFr
namespace Go.Proofs.Ytccjbipmlpnhkaa
set_option maxRecDepth 100000
open Go.RowKit Go.ChangeShapes Go.WideShapes Go.ChangeAt
set_option linter.unusedSimpArgs false
set_option linter.unusedVariables false


set_option maxHeartbeats 1000000 in
theorem wpNums_any{A A' : Option Addr} {n n' c c' : Nat} {xs ys : List Int} {w : World} (h : Ints w A n xs) (h' : Ints w A' n' ys) :
    Calls Try.prog 25 #[.slice A n c, .slice A' n' c'] w fun e w' => e = .returned (.bool (decide (xs = ys))) ∧ ∃ m, w' = w.drewN m := by
  have hfew := h.few
  by_cases hn : n = n'
  · subst hn
    have hl := Lib.hid (h.len.trans h'.len.symm)
    go_enter Try.func25, Try.ntmps25
    go_wp2
    go_loopw [5] (fun i wr => ∃ k m : Nat, k ≤ n ∧ i = .int .i64 k ∧ SameTo xs ys k ∧ wr = w.drewN m) (fun i _ => n - (intOf i).toNat)
    case atStart => exact ⟨0, 0, by omega, rfl, SameTo.zero xs ys, rfl⟩
    case round =>
      obtain ⟨k, m, hk, rfl, hok, rfl⟩ := hrel
      by_cases hlt : k < n
      · obtain ⟨p, o, rfl, hp, hc⟩ := h.cells (by omega)
        obtain ⟨p', o', rfl, hp', hc'⟩ := h'.cells (by omega)
        have hck := hc k hlt
        have hck' := hc' k hlt
        clear hc hc'
        have hno := Lib.hid (@same_no xs ys k)
        have hyes := Lib.hid (@SameTo.succ xs ys k hok)
        generalize xs.getD k 0 = x at *
        generalize ys.getD k 0 = y at *
        cases hx : (x != y)
        · go_wp2
          go_quiet (fail)
          go_wp2
          go_roundw
          case rel => exact ⟨k + 1, m + nq, by omega, by go_num, hyes.out (by simpa using hx), by first | rfl | exact World.drewN_drewN ..⟩
          case measure => simp [intOf]; omega
        · go_wp2
          go_quiet (fail)
          go_wp2
          go_ret
          exact ⟨by rw [hno.out hx]; rfl, m + nq, by first | rfl | exact World.drewN_drewN ..⟩
      · obtain rfl : k = n := by omega
        go_wp2
        go_ret
        exact ⟨by rw [same_yes hl.out (by rw [h.len]; exact hok)]; rfl, m, rfl⟩
  · have hne : ((n : Int) != (n' : Int)) = true := by simp; omega
    have hd := same_len (xs := xs) (ys := ys) (by rw [h.len, h'.len]; exact hn)
    rw [hd]
    go_enter Try.func25, Try.ntmps25
    go_wp2
    go_ret
    exact ⟨rfl, 0, rfl⟩
theorem wpNums_same {A A' : Option Addr} {n n' c c' : Nat} {xs : List Int} {w : World} (h : Ints w A n xs) (h' : Ints w A' n' xs) :
    Calls Try.prog 25 #[.slice A n c, .slice A' n' c'] w fun e w' => e = .returned (.bool true) ∧ Below w.heap.size w w' :=
  (wpNums_any h h').mono fun e w' => by
    rintro ⟨he, m, rfl⟩
    exact ⟨by rw [he]; simp, below_drewN (Below.refl _ _) m⟩

set_option maxHeartbeats 4000000 in
theorem wpRats_same {A A' : Option Addr} {n n' c c' : Nat} {vs : List (Int × Int)} {w : World} (h : Rats w A n vs) (h' : Rats w A' n' vs) :
    Calls Try.prog 24 #[.slice A n c, .slice A' n' c'] w fun e w' => e = .returned (.bool true) ∧ Below w.heap.size w w' := by
  obtain rfl : n = n' := h.len.symm.trans h'.len
  have hfew := h.few
  go_enter Try.func24, Try.ntmps24
  go_wp2_with fail
  go_loopw [5] (fun i wr => ∃ k m : Nat, k ≤ n ∧ i = .int .i64 k ∧ wr = w.drewN m) (fun i _ => n - (intOf i).toNat)
  case atStart => exact ⟨0, 0, by omega, rfl, rfl⟩
  case round =>
    obtain ⟨k, m, hk, rfl, rfl⟩ := hrel
    by_cases hlt : k < n
    · obtain ⟨p, o, rfl, hp, hc⟩ := h.cells (by omega)
      obtain ⟨p', o', rfl, hp', hc'⟩ := h'.cells (by omega)
      obtain ⟨hc1, hc2⟩ := hc k hlt
      obtain ⟨hc3, hc4⟩ := hc' k hlt
      clear hc hc'
      generalize (vs.getD k (0, 0)).1 = x at *
      generalize (vs.getD k (0, 0)).2 = y at *
      go_wp2
      go_quiet (fail)
      go_wp2
      go_roundw
      case rel => exact ⟨k + 1, m + nq, by omega, by go_num, by first | rfl | exact World.drewN_drewN ..⟩
      case measure => simp [intOf]; omega
    · obtain rfl : k = n := by omega
      go_wp2
      go_ret
      exact ⟨rfl, below_drewN (Below.refl _ _) m⟩
end Go.Proofs.Ytccjbipmlpnhkaa
