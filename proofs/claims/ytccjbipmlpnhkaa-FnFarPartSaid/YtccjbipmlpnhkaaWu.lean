/- The first rows of elimination: contracts. -/
import Derived.Test.YtccjbipmlpnhkaaWr
namespace Go.Proofs.Ytccjbipmlpnhkaa
set_option maxRecDepth 100000
open Go.RowKit Go.ChangeShapes Go.WideShapes Go.ChangeAt
set_option linter.unusedSimpArgs false
set_option linter.unusedVariables false


theorem news4 {W : World} {E : Nat} {a b c d : Value} {t : TypeId} (hE : W.heap.size = E) : ∀ j u, [a, b, c, d][j]? = some u → (W.alloc (.cells #[a, b, c, d] t)).cell? ((⟨E, 0, none⟩ : Addr).add j) = some u := by
  subst hE
  exact World.news_of_block (cs := #[a, b, c, d]) (t := t) (fr := (0, 0)) (heap_alloc_new _ _)
theorem own_empty4 {W : World} {t : TypeId} {E base : Nat} (hE : W.heap.size = E) (hb : base ≤ E) : (W.alloc (.cells #[] t)).ownsRow base t 4 (.slice (some ⟨E, 0, none⟩) 0 0) 0 [] := by
  subst hE
  exact World.ownsRow_lit W #[] 0 hb (by simp) rfl
theorem RowG.empty {W : World} {t : TypeId} {E base : Nat} (hE : W.heap.size = E) (hb : base ≤ E) : RowG (W.alloc (.cells #[] t)) t base (.slice (some ⟨E, 0, none⟩) 0 0) 0 [] [] := ⟨own_empty4 hE hb, rfl, fun _ h => absurd h (by omega)⟩

theorem ulin_info : (Try.prog.info? 72).map (fun i => (i.zero, i.size, i.bytes)) = some (some (.agg #[.slice none 0 0, .int .i64 0, .bool false, .slice none 0 0]), 4, 64) := by kernel_rfl

theorem l3row_info : (Try.prog.info? 79).map (fun i => (i.zero, i.size, i.bytes)) = some (some (.agg #[.slice none 0 0, .int .i64 0, .bool false, .slice none 0 0]), 4, 64) := by kernel_rfl

set_option maxHeartbeats 4000000 in
theorem usedLins_any {A : Option Addr} {n c : Nat} {ls : List LinV} {w : World} (h : Lins w A n ls) (hn : n ≤ 20) :
    Calls Try.prog 49 #[.slice A n c] w fun e w' => ∃ A' c', e = .returned (.slice A' n c') ∧ Rws w' A' n (rowsOf ls) ∧ Below w.heap.size w w' := by
  have hl := Lib.hid h.len
  obtain ⟨j0, hj, yj0, yj1, yj2⟩ := info_parts ulin_info
  have hmk := fun W => makeInts (n := n) (by omega) W
  go_enter Try.func49, Try.ntmps49
  go_wp2_with fail
  go_loopw [3, 9] (fun v0 i wr => ∃ (k : Nat) (v : Value) (zs : List Value), k ≤ n ∧ i = .int .i64 k ∧ v = v0 ∧ RowG wr 72 w.heap.size v k (rowsTo ls k) zs ∧ Below w.heap.size w wr) (fun _ i _ => n - (intOf i).toNat)
  case atStart => exact ⟨0, _, [], by omega, rfl, rfl, RowG.nil _ _ _, by (repeat (first | with_reducible exact Below.refl _ _ | with_reducible assumption | (with_reducible refine below_drewN ?_ _) | (with_reducible refine Below.drew ?_) | (with_reducible refine Below.setCell ?_ (by first | omega | (simp; done) | (simp; omega)) _) | (with_reducible refine Below.alloc ?_ (by first | omega | (simp; done) | (simp; omega)) _) | refine Below.trans ?_ (Below.mono (by with_reducible assumption) (by first | omega | (simp; done) | (simp; omega)))))⟩
  case round =>
    obtain ⟨k, v, zs, hk, rfl, rfl, hrow, hB⟩ := hrel
    have hzr := hB.size
    by_cases hlt : k < n
    · obtain ⟨p, o, rfl, hp0, hcs⟩ := (h).cells (by omega)
      obtain ⟨B, m, cb, hI0, hd1, hd2, hd3⟩ := (hcs k hlt).ex
      clear hcs
      have hc1 := (hB.cell (p := ⟨p, o + k * 3, none⟩) hp0).trans hd1
      have hc2 := (hB.cell (p := ⟨p, o + k * 3 + 1, none⟩) hp0).trans hd2
      have hc3 := (hB.cell (p := ⟨p, o + k * 3 + 2, none⟩) hp0).trans hd3
      clear hd1 hd2 hd3
      have hIk := hI0.later hB
      have hp : p < wr.heap.size := by omega
      have hz0 := zeroCells_get hlt
      have HX : Hid (rowsTo ls (k + 1) = rowsTo ls k ++ [(((ls.getD k lin0).1, (ls.getD k lin0).2.1, (ls.getD k lin0).2.2), unitAt n k)]) := Lib.hid (by rw [rowsTo_succ, hl.out])
      generalize (ls.getD k lin0).1 = xs at *
      generalize (ls.getD k lin0).2.1 = b at *
      generalize (ls.getD k lin0).2.2 = s at *
      go_wp2_with (first | (at_builtin; refine wpList_append_lies _ (by rfl) (.tmp 20) (.tmp 24) _ (by rfl) w.heap.size 72 j0 _ 4 64 Try.underlying67 hj yj0 yj1 yj2 rfl (by omega) v k zs (by rfl) (RowG.later hrow (by (repeat (first | with_reducible exact Below.refl _ _ | with_reducible assumption | (with_reducible refine below_drewN ?_ _) | (with_reducible refine Below.drew ?_) | (with_reducible refine Below.setCell ?_ (by first | omega | (simp; done) | (simp; omega)) _) | (with_reducible refine Below.alloc ?_ (by first | omega | (simp; done) | (simp; omega)) _) | refine Below.trans ?_ (Below.mono (by with_reducible assumption) (by first | omega | (simp; done) | (simp; omega))))))).own ⟨wr.heap.size + 1 + 1, 0, none⟩ 1 1 [.slice B m cb, .int .i64 b, .bool s, .slice (some ⟨wr.heap.size + 1, 0, none⟩) n n] (by rfl) (by rfl) (news4 (by first | omega | (simp; done) | (simp; omega))) (by simp [Value.oneCell']) (by omega) (by unfold maxLen; omega) (by omega) (by first | omega | (simp; done) | (simp; omega)) (wr.heap.size + 1 + 1 + 1) (by simp) ?_; intro g' cap' wq hown3 hgrow hat hlt2; (have hrow4 := (RowG.later hrow (by (repeat (first | with_reducible exact Below.refl _ _ | with_reducible assumption | (with_reducible refine below_drewN ?_ _) | (with_reducible refine Below.drew ?_) | (with_reducible refine Below.setCell ?_ (by first | omega | (simp; done) | (simp; omega)) _) | (with_reducible refine Below.alloc ?_ (by first | omega | (simp; done) | (simp; omega)) _) | refine Below.trans ?_ (Below.mono (by with_reducible assumption) (by first | omega | (simp; done) | (simp; omega))))))).snoc (x := ((xs, b, s), unitAt n k)) hown3 hgrow hat (by simp) (hIk.later (by (repeat (first | with_reducible exact Below.refl _ _ | with_reducible assumption | (with_reducible refine below_drewN ?_ _) | (with_reducible refine Below.drew ?_) | (with_reducible refine Below.setCell ?_ (by first | omega | (simp; done) | (simp; omega)) _) | (with_reducible refine Below.alloc ?_ (by first | omega | (simp; done) | (simp; omega)) _) | refine Below.trans ?_ (Below.mono (by with_reducible assumption) (by first | omega | (simp; done) | (simp; omega))))))) ((unit_ints (by omega) hlt (by simp)).alloc _) (Off.upper hI0 hrow.own) (Off.fresh hrow.own (by omega)); have hB4 : Below w.heap.size w wq := Below.grown (by (repeat (first | with_reducible exact Below.refl _ _ | with_reducible assumption | (with_reducible refine below_drewN ?_ _) | (with_reducible refine Below.drew ?_) | (with_reducible refine Below.setCell ?_ (by first | omega | (simp; done) | (simp; omega)) _) | (with_reducible refine Below.alloc ?_ (by first | omega | (simp; done) | (simp; omega)) _) | refine Below.trans ?_ (Below.mono (by with_reducible assumption) (by first | omega | (simp; done) | (simp; omega)))))) hgrow (by first | omega | (simp; done) | (simp; omega)) (fun j hj => (hrow.own.lt j hj).1); clear hown3 hgrow hat hlt2 hrow)))
      rw [← HX.out] at hrow4
      go_roundw
      case rel => exact ⟨k + 1, _, _, by omega, by go_num, rfl, hrow4, hB4⟩
      case measure => simp [intOf]; omega
    · obtain rfl : k = n := by omega
      obtain ⟨A', c', rfl⟩ := hrow.form
      have hR := hrow.rws (by omega)
      go_wp2
      go_ret
      exact ⟨A', c', rfl, by have e := hl.out; subst e; exact hR, hB⟩

set_option maxHeartbeats 4000000 in
theorem l3Rows_any {A : Option Addr} {n c : Nat} {ls : List LinV} {w : World} (h : Lins w A n ls) (hn : n ≤ 20) :
    Calls Try.prog 53 #[.slice A n c] w fun e w' => ∃ A' c', e = .returned (.slice A' n c') ∧ Rws w' A' n (rowsOf ls) ∧ Below w.heap.size w w' := by
  have hl := Lib.hid h.len
  obtain ⟨j0, hj, yj0, yj1, yj2⟩ := info_parts l3row_info
  have hmk := fun W => makeInts (n := n) (by omega) W
  go_enter Try.func53, Try.ntmps53
  go_wp2_with fail
  go_loopw [3, 4] (fun v0 i wr => ∃ (k : Nat) (v : Value) (zs : List Value), k ≤ n ∧ i = .int .i64 k ∧ v = v0 ∧ RowG wr 79 w.heap.size v k (rowsTo ls k) zs ∧ Below w.heap.size w wr) (fun _ i _ => n - (intOf i).toNat)
  case atStart => exact ⟨0, _, [], by omega, rfl, rfl, RowG.empty rfl (Nat.le_refl _), by (repeat (first | with_reducible exact Below.refl _ _ | with_reducible assumption | (with_reducible refine below_drewN ?_ _) | (with_reducible refine Below.drew ?_) | (with_reducible refine Below.setCell ?_ (by first | omega | (simp; done) | (simp; omega)) _) | (with_reducible refine Below.alloc ?_ (by first | omega | (simp; done) | (simp; omega)) _) | refine Below.trans ?_ (Below.mono (by with_reducible assumption) (by first | omega | (simp; done) | (simp; omega)))))⟩
  case round =>
    obtain ⟨k, v, zs, hk, rfl, rfl, hrow, hB⟩ := hrel
    have hzr := hB.size
    by_cases hlt : k < n
    · obtain ⟨p, o, rfl, hp0, hcs⟩ := (h).cells (by omega)
      obtain ⟨B, m, cb, hI0, hd1, hd2, hd3⟩ := (hcs k hlt).ex
      clear hcs
      have hc1 := (hB.cell (p := ⟨p, o + k * 3, none⟩) hp0).trans hd1
      have hc2 := (hB.cell (p := ⟨p, o + k * 3 + 1, none⟩) hp0).trans hd2
      have hc3 := (hB.cell (p := ⟨p, o + k * 3 + 2, none⟩) hp0).trans hd3
      clear hd1 hd2 hd3
      have hIk := hI0.later hB
      have hp : p < wr.heap.size := by omega
      have hz0 := zeroCells_get hlt
      have HX : Hid (rowsTo ls (k + 1) = rowsTo ls k ++ [(((ls.getD k lin0).1, (ls.getD k lin0).2.1, (ls.getD k lin0).2.2), unitAt n k)]) := Lib.hid (by rw [rowsTo_succ, hl.out])
      generalize (ls.getD k lin0).1 = xs at *
      generalize (ls.getD k lin0).2.1 = b at *
      generalize (ls.getD k lin0).2.2 = s at *
      go_wp2_with (first | (at_builtin; refine wpList_append_lies _ (by rfl) (.tmp 19) (.tmp 26) _ (by rfl) w.heap.size 79 j0 _ 4 64 Try.underlying74 hj yj0 yj1 yj2 rfl (by omega) v k zs (by rfl) (RowG.later hrow (by (repeat (first | with_reducible exact Below.refl _ _ | with_reducible assumption | (with_reducible refine below_drewN ?_ _) | (with_reducible refine Below.drew ?_) | (with_reducible refine Below.setCell ?_ (by first | omega | (simp; done) | (simp; omega)) _) | (with_reducible refine Below.alloc ?_ (by first | omega | (simp; done) | (simp; omega)) _) | refine Below.trans ?_ (Below.mono (by with_reducible assumption) (by first | omega | (simp; done) | (simp; omega))))))).own ⟨wr.heap.size + 1, 0, none⟩ 1 1 [.slice B m cb, .int .i64 b, .bool s, .slice (some ⟨wr.heap.size, 0, none⟩) n n] (by rfl) (by rfl) (news4 (by first | omega | (simp; done) | (simp; omega))) (by simp [Value.oneCell']) (by omega) (by unfold maxLen; omega) (by omega) (by first | omega | (simp; done) | (simp; omega)) (wr.heap.size + 1 + 1) (by simp) ?_; intro g' cap' wq hown3 hgrow hat hlt2; (have hrow4 := (RowG.later hrow (by (repeat (first | with_reducible exact Below.refl _ _ | with_reducible assumption | (with_reducible refine below_drewN ?_ _) | (with_reducible refine Below.drew ?_) | (with_reducible refine Below.setCell ?_ (by first | omega | (simp; done) | (simp; omega)) _) | (with_reducible refine Below.alloc ?_ (by first | omega | (simp; done) | (simp; omega)) _) | refine Below.trans ?_ (Below.mono (by with_reducible assumption) (by first | omega | (simp; done) | (simp; omega))))))).snoc (x := ((xs, b, s), unitAt n k)) hown3 hgrow hat (by simp) (hIk.later (by (repeat (first | with_reducible exact Below.refl _ _ | with_reducible assumption | (with_reducible refine below_drewN ?_ _) | (with_reducible refine Below.drew ?_) | (with_reducible refine Below.setCell ?_ (by first | omega | (simp; done) | (simp; omega)) _) | (with_reducible refine Below.alloc ?_ (by first | omega | (simp; done) | (simp; omega)) _) | refine Below.trans ?_ (Below.mono (by with_reducible assumption) (by first | omega | (simp; done) | (simp; omega))))))) ((unit_ints (by omega) hlt (by simp)).alloc _) (Off.upper hI0 hrow.own) (Off.fresh hrow.own (by omega)); have hB4 : Below w.heap.size w wq := Below.grown (by (repeat (first | with_reducible exact Below.refl _ _ | with_reducible assumption | (with_reducible refine below_drewN ?_ _) | (with_reducible refine Below.drew ?_) | (with_reducible refine Below.setCell ?_ (by first | omega | (simp; done) | (simp; omega)) _) | (with_reducible refine Below.alloc ?_ (by first | omega | (simp; done) | (simp; omega)) _) | refine Below.trans ?_ (Below.mono (by with_reducible assumption) (by first | omega | (simp; done) | (simp; omega)))))) hgrow (by first | omega | (simp; done) | (simp; omega)) (fun j hj => (hrow.own.lt j hj).1); clear hown3 hgrow hat hlt2 hrow)))
      rw [← HX.out] at hrow4
      go_roundw
      case rel => exact ⟨k + 1, _, _, by omega, by go_num, rfl, hrow4, hB4⟩
      case measure => simp [intOf]; omega
    · obtain rfl : k = n := by omega
      obtain ⟨A', c', rfl⟩ := hrow.form
      have hR := hrow.rws (by omega)
      go_wp2
      go_ret
      exact ⟨A', c', rfl, by have e := hl.out; subst e; exact hR, hB⟩
end Go.Proofs.Ytccjbipmlpnhkaa
