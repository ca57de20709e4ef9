/- Rows of fractions that are copied out of plain data, and compared. -/
import Derived.Test.YtccjbipmlpnhkaaO
import Derived.Deep.SlicePairs
namespace Go.Proofs.Ytccjbipmlpnhkaa
set_option maxRecDepth 100000
open Go.RowKit Go.ChangeShapes Go.WideShapes Go.ChangeAt
set_option linter.unusedSimpArgs false
set_option linter.unusedVariables false

theorem rat_info2 : (Try.prog.info? 82).map (fun i => (i.zero, i.size, i.bytes)) = some (some (.agg #[.int .i64 0, .int .i64 0]), 2, 16) := by kernel_rfl
/-- The first k pairs of cells are the fractions. -/
def Fill2 (zs : List Value) (vs : List (Int × Int)) (k : Nat) : Prop := ∀ j, j < k → zs[j * 2]? = some (.int .i64 (vs.getD j (0, 0)).1) ∧ zs[j * 2 + 1]? = some (.int .i64 (vs.getD j (0, 0)).2)
theorem Fill2.zero (zs : List Value) (vs : List (Int × Int)) : Fill2 zs vs 0 := fun _ h => absurd h (by omega)
theorem Fill2.set {zs : List Value} {vs : List (Int × Int)} {k : Nat} (h : Fill2 zs vs k) (hk : k * 2 + 1 < zs.length) :
    Fill2 ((zs.set (k * 2) (.int .i64 (vs.getD k (0, 0)).1)).set (k * 2 + 1) (.int .i64 (vs.getD k (0, 0)).2)) vs (k + 1) := fun j hj => by
  by_cases e : j = k
  · subst e
    refine ⟨?_, ?_⟩
    · rw [List.getElem?_set_ne (by omega), List.getElem?_set_self (by omega)]
    · rw [List.getElem?_set_self (by simp; omega)]
  · obtain ⟨h1, h2⟩ := h j (by omega)
    refine ⟨?_, ?_⟩
    · rw [List.getElem?_set_ne (by omega), List.getElem?_set_ne (by omega)]; exact h1
    · rw [List.getElem?_set_ne (by omega), List.getElem?_set_ne (by omega)]; exact h2
theorem Rats.of_own {w : World} {base g n c : Nat} {t : TypeId} {zs : List Value} {vs : List (Int × Int)} (h : w.ownsRow base t 2 (.slice (some ⟨g, 0, none⟩) n c) n zs) (hf : Fill2 zs vs n) (hl : vs.length = n)
    (hr : ∀ j, J64 (vs.getD j (0, 0)).1 ∧ J64 (vs.getD j (0, 0)).2) (hn : n ≤ 9223372036854775807) : Rats w (some ⟨g, 0, none⟩) n vs :=
  ⟨hl, fun _ => ⟨g, 0, rfl, (h.lt g rfl).2, fun j hj => by rw [Nat.zero_add, h.cellAt _ (by omega), h.cellAt _ (by omega)]; exact hf j hj⟩, hr, hn⟩

theorem eqRat_same (x y : Int) (w : World) :
    Calls Try.prog 74 #[.agg #[.int .i64 x, .int .i64 y], .agg #[.int .i64 x, .int .i64 y]] w fun e w' => e = .returned (.bool true) ∧ Below w.heap.size w w' := by
  have h := eqRat_any x y x y w
  simpa using h
set_option maxHeartbeats 4000000 in
theorem eqRatS_same {A A' : Option Addr} {n c c' : Nat} {vs : List (Int × Int)} {w : World} (h : Rats w A n vs) (h' : Rats w A' n vs) :
    Calls Try.prog 33 #[.slice A n c, .slice A' n c'] w fun e w' => e = .returned (.bool true) ∧ Below w.heap.size w w' := by
  have hfew := h.few
  go_enter Try.func33, Try.ntmps33
  go_wp2_with fail
  go_loopw [5] (fun i wr => ∃ k : Nat, k ≤ n ∧ i = .int .i64 k ∧ Below w.heap.size w wr) (fun i _ => n - (intOf i).toNat)
  case atStart => exact ⟨0, by omega, rfl, by (repeat (first | with_reducible exact Below.refl _ _ | with_reducible assumption | (with_reducible refine below_drewN ?_ _) | (with_reducible refine Below.drew ?_) | (with_reducible refine Below.setCell ?_ (by first | omega | (simp; done) | (simp; omega)) _) | (with_reducible refine Below.alloc ?_ (by first | omega | (simp; done) | (simp; omega)) _) | refine Below.trans ?_ (Below.mono (by with_reducible assumption) (by first | omega | (simp; done) | (simp; omega)))))⟩
  case round =>
    obtain ⟨k, hk, rfl, hB⟩ := hrel
    by_cases hlt : k < n
    · obtain ⟨p, o, rfl, hp, hc⟩ := (h.later hB).cells (by omega)
      obtain ⟨p', o', rfl, hp', hc'⟩ := (h'.later hB).cells (by omega)
      obtain ⟨hc1, hc2⟩ := hc k hlt
      obtain ⟨hc3, hc4⟩ := hc' k hlt
      clear hc hc'
      generalize (vs.getD k (0, 0)).1 = x at *
      generalize (vs.getD k (0, 0)).2 = y at *
      have c1 := Lib.hid (fun W => eqRat_same x y W)
      go_wp2_with fail
      refine wp_region_grown (by kernel_rfl) (by kernel_rfl) ?_
      refine quiet_with (a := ⟨p, o + k * 2, none⟩) (v := .int .i64 x) hc1 ?_; intro g
      refine quiet_with (a := ⟨p, o + k * 2 + 1, none⟩) (v := .int .i64 y) hc2 ?_; intro g
      refine quiet_with (a := ⟨p', o' + k * 2, none⟩) (v := .int .i64 x) hc3 ?_; intro g
      refine quiet_with (a := ⟨p', o' + k * 2 + 1, none⟩) (v := .int .i64 y) hc4 ?_; intro g
      repeat (go_big_quiet_step ((first | (go_at_call 74; (with_reducible exact grown_of (c1.out _))))))
      refine wpQuiet_nil ?_
      rintro w2 ⟨⟨_, hb1⟩, rfl⟩
      have hB2 : Below w.heap.size w w2 := hB.trans (hb1.mono hB.size)
      clear hb1 c1
      go_wp2
      go_roundw
      case rel => exact ⟨k + 1, by omega, by go_num, hB2⟩
      case measure => simp [intOf]; omega
    · obtain rfl : k = n := by omega
      go_wp2
      go_ret
      exact ⟨rfl, hB⟩
end Go.Proofs.Ytccjbipmlpnhkaa
