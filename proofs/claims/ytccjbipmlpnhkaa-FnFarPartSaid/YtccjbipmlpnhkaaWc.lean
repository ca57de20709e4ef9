/- A clone of numbers. -/
import Derived.Test.YtccjbipmlpnhkaaWp
namespace Go.Proofs.Ytccjbipmlpnhkaa
set_option maxRecDepth 100000
open Go.RowKit Go.ChangeShapes Go.WideShapes Go.ChangeAt
set_option linter.unusedSimpArgs false
set_option linter.unusedVariables false


theorem clone_any {A : Option Addr} {n c : Nat} {xs : List Int} {w : World} (h : Ints w A n xs) (hn : 0 < n) (hn' : n ≤ 1000000) :
    Calls Try.prog 50 #[.slice A n c] w fun e w' => ∃ g cap, e = .returned (.slice (some ⟨g, 0, none⟩) n cap) ∧ (Ints w' (some ⟨g, 0, none⟩) n xs ∧ Free w' g) ∧ w.heap.size ≤ g ∧ Below w.heap.size w w' := by
  obtain ⟨i0, hi, zi0, zi1, zi2⟩ := info_parts int_info
  have hl := h.len
  have hrng := h.rng
  obtain ⟨b, o, rfl, hb, hc⟩ := h.cells hn
  have hnews : ∀ j u, (xs.map (Value.int .i64))[j]? = some u → (w.alloc (.cells #[] 3)).cell? ((⟨b, o, none⟩ : Addr).add j) = some u := fun j u hj => by
    rw [List.getElem?_map] at hj
    by_cases hjn : j < n
    · have h0 := hc j hjn
      rw [List.getElem?_eq_getElem (by omega)] at hj
      rw [List.getD_eq_getElem?_getD, List.getElem?_eq_getElem (by omega)] at h0
      have hadd : (⟨b, o, none⟩ : Addr).add j = ⟨b, o + j, none⟩ := by unfold Addr.add; simp
      rw [hadd, World.cell?_alloc_past _ _ _ hb, h0]
      exact hj
    · rw [List.getElem?_eq_none (by omega)] at hj
      cases hj
  have hown0 : (w.alloc (.cells #[] 3)).ownsRow w.heap.size 3 1 (.slice (some ⟨w.heap.size, 0, none⟩) 0 0) 0 [] := World.ownsRow_lit w #[] 0 (Nat.le_refl _) (by simp) rfl
  have hbin : ∀ W, Sem.run Try.prog (binOp BinOp.eql 29 (.slice (some ⟨b, o, none⟩) n c) (.slice none 0 0)) W = .ok (.bool false) W := fun W => by kernel_rfl
  go_enter Try.func50, Try.ntmps50
  go_wp2_with (first | (at_builtin; refine wpList_append_lies _ (by rfl) (.tmp 5) (.tmp 6) _ (by rfl) w.heap.size 3 i0 _ 1 8 Try.underlying29 hi zi0 zi1 zi2 rfl (by omega) (.slice (some ⟨w.heap.size, 0, none⟩) 0 0) 0 [] (by rfl) hown0 ⟨b, o, none⟩ n c (xs.map (Value.int .i64)) (by rfl) (by simp; omega) hnews (by intro u hu; obtain ⟨y, _, rfl⟩ := List.mem_map.1 hu; simp [Value.oneCell']) hn (by unfold maxLen; omega) (by omega) (by simp) (w.heap.size + 1) (by simp) ?_; intro g' cap' wq hown3 hgrow hat hlt2; have hB4 : Below w.heap.size w wq := Below.grown (by (repeat (first | with_reducible exact Below.refl _ _ | with_reducible assumption | (with_reducible refine below_drewN ?_ _) | (with_reducible refine Below.drew ?_) | (with_reducible refine Below.setCell ?_ (by first | omega | (simp; done) | (simp; omega)) _) | (with_reducible refine Below.alloc ?_ (by first | omega | (simp; done) | (simp; omega)) _) | refine Below.trans ?_ (Below.mono (by with_reducible assumption) (by first | omega | (simp; done) | (simp; omega)))))) hgrow (by first | omega | (simp; done) | (simp; omega)) (fun j hj => by have := (hown0.lt j hj).1; exact this); have hF := (show Free wq g' from ⟨(hown3.lt g' rfl).2, fun j => hown3.frozenAt j⟩); have hg' := (hown3.lt g' rfl).1; have HO := Lib.hid hown3; clear hown3 hgrow hat hlt2))
  have hown := HO.out
  rw [Nat.zero_add] at hown
  go_ret
  refine ⟨g', cap', by simp, ⟨Ints.of_own hown (fun j hj => ?_) hl hrng h.few, hF⟩, hg', hB4⟩
  rw [List.nil_append, List.getElem?_map, List.getElem?_eq_getElem (show j < xs.length by omega), List.getD_eq_getElem?_getD, List.getElem?_eq_getElem (show j < xs.length by omega)]
  rfl
end Go.Proofs.Ytccjbipmlpnhkaa
