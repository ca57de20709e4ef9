/- A text is torn (for seats without fractions' texts). -/
import Derived.Test.YtgmeoblapnmpiaaKp
import Derived.Deep.AppendLies
namespace Go.Proofs.Ytgmeoblapnmpiaa
set_option maxRecDepth 100000
open Go.RowKit Go.ChangeShapes Go.WideShapes Go.ChangeAt
set_option linter.unusedSimpArgs false
set_option linter.unusedVariables false

def tears : List ByteArray := [⟨#[]⟩, ⟨#[32]⟩, ⟨#[48]⟩, ⟨#[45]⟩, ⟨#[49]⟩, ⟨#[60]⟩, ⟨#[61]⟩, ⟨#[40]⟩]
theorem tears_small : ∀ t ∈ tears, t.size ≤ 1 := by decide

set_option maxRecDepth 100000 in
set_option maxHeartbeats 2000000 in
theorem l2Torn_any {g : Nat} {A : Option Addr} {cap : Nat} {bs : List UInt8} {p : Nat} (s : ByteArray) (hs : s.size ≤ 1000000) {w : World} (h : Rd w g A cap bs p) (hp : p ≤ 900000) :
    Calls Try.prog 71 #[.pointer (some ⟨g, 0, none⟩), .string s] w fun e w' => ∃ t : ByteArray, e = .returned (.string t) ∧ t.size ≤ s.size + 1 ∧ Moved g A cap bs p 4 w w' := by
  have hgl := h.lt
  go_enter Try.func71, Try.ntmps71
  by_cases h0 : s.size = 0
  · have g0 : ((s.size : Int) == 0) = true := by rw [h0]; rfl
    go_wp2_with fail
    go_ret
    exact ⟨s, rfl, by omega, ⟨⟨p, by omega, h⟩, Only.refl _ _⟩⟩
  have g0 : ((s.size : Int) == 0) = false := by rw [beq_eq_false_iff_ne]; omega
  have hsp : 0 < s.size := by omega
  go_wp2_with fail
  refine (pick_any 2 h (by omega) (by omega) (by omega)).mono ?_
  rintro e w1 ⟨r0, rfl, hr⟩
  have hR1 := hr.rd
  have hO1 := hr.only
  have hz1 := hO1.size
  clear hr
  by_cases q0 : r0 = 0
  · subst q0
    go_wp2_with fail
    go_ret
    exact ⟨s, rfl, by omega, ⟨⟨p + 1, by omega, hR1⟩, hO1⟩⟩
  have q0' : (r0 == 0) = false := by simpa using q0
  go_wp2_with fail
  refine (pick_any (s.size : Int) hR1 (by omega) (by omega) (by omega)).mono ?_
  rintro e w2 ⟨r, rfl, hr⟩
  have hr0 := hr.lo
  have hr1 := hr.hi (by omega)
  obtain ⟨k, rfl⟩ := Int.eq_ofNat_of_zero_le hr0
  have hk : k < s.size := by omega
  have hki : (k : Int) ≤ (s.size : Int) := by omega
  obtain ⟨s1, hs1⟩ : ∃ s1, s.extract 0 k = s1 := ⟨_, rfl⟩
  have hs1z : s1.size ≤ k := by rw [← hs1, ByteArray.size_extract]; omega
  have hR2 := hr.rd
  have hO2 := hO1.trans hr.only
  have hz2 := hO2.size
  clear hr hO1 hR1
  go_wp2_with fail
  refine wp_region_T 14 (fun w' => True) (by kernel_rfl) (by kernel_rfl) ?_ (fun hHeld => ?_)
  · trivial
  (refine wpAnyT_take (i := 0) (v := ?_) (by simp only [List.getElem?_toArray, List.getElem?_cons_succ, List.getElem?_cons_zero]; rfl) (by kernel_rfl) (by kernel_rfl) (by kernel_rfl) (by kernel_rfl) (by intro _ _ _ h; exact h) (Or.inl ⟨by rfl, ?_⟩) (by assumption) ?_; rotate_left; (focus (intro wS hSw; (try dsimp only at hSw); go_simp; (try with_reducible rfl))); (try simp only [Act.put, List.setIfInBounds_toArray, List.set_cons_zero, List.set_cons_succ]))
  (refine wpAnyT_take (i := 1) (v := ?_) (by simp only [List.getElem?_toArray, List.getElem?_cons_succ, List.getElem?_cons_zero]; rfl) (by kernel_rfl) (by kernel_rfl) (by kernel_rfl) (by kernel_rfl) (by intro _ _ _ h; exact h) (Or.inl ⟨by rfl, ?_⟩) (by assumption) ?_; rotate_left; (focus (intro wS hSw; (try dsimp only at hSw); go_simp; (try with_reducible rfl))); (try simp only [Act.put, List.setIfInBounds_toArray, List.set_cons_zero, List.set_cons_succ]))
  (refine wpAnyT_take (i := 2) (v := ?_) (by simp only [List.getElem?_toArray, List.getElem?_cons_succ, List.getElem?_cons_zero]; rfl) (by kernel_rfl) (by kernel_rfl) (by kernel_rfl) (by kernel_rfl) (by intro _ _ _ h; exact h) (Or.inl ⟨by rfl, ?_⟩) (by assumption) ?_; rotate_left; (focus (intro wS hSw; (try dsimp only at hSw); go_simp; (try with_reducible rfl))); (try simp only [Act.put, List.setIfInBounds_toArray, List.set_cons_zero, List.set_cons_succ]))
  (refine wpAnyT_take (i := 3) (v := ?_) (by simp only [List.getElem?_toArray, List.getElem?_cons_succ, List.getElem?_cons_zero]; rfl) (by kernel_rfl) (by kernel_rfl) (by kernel_rfl) (by kernel_rfl) (by intro _ _ _ h; exact h) (Or.inl ⟨by rfl, ?_⟩) (by assumption) ?_; rotate_left; (focus (intro wS hSw; (try dsimp only at hSw); go_simp; (try with_reducible rfl))); (try simp only [Act.put, List.setIfInBounds_toArray, List.set_cons_zero, List.set_cons_succ]))
  (refine wpAnyT_take (i := 7) (v := ?_) (by simp only [List.getElem?_toArray, List.getElem?_cons_succ, List.getElem?_cons_zero]; rfl) (by kernel_rfl) (by kernel_rfl) (by kernel_rfl) (by kernel_rfl) (by intro _ _ _ h; exact h) (Or.inl ⟨by rfl, ?_⟩) (by assumption) ?_; rotate_left; (focus (intro wS hSw; (try dsimp only at hSw); go_simp; (try with_reducible rfl))); (try simp only [Act.put, List.setIfInBounds_toArray, List.set_cons_zero, List.set_cons_succ]))
  (refine wpAnyT_take (i := 8) (v := ?_) (by simp only [List.getElem?_toArray, List.getElem?_cons_succ, List.getElem?_cons_zero]; rfl) (by kernel_rfl) (by kernel_rfl) (by kernel_rfl) (by kernel_rfl) (by intro _ _ _ h; exact h) (Or.inl ⟨by rfl, ?_⟩) (by assumption) ?_; rotate_left; (focus (intro wS hSw; (try dsimp only at hSw); go_simp; (try with_reducible rfl))); (try simp only [Act.put, List.setIfInBounds_toArray, List.set_cons_zero, List.set_cons_succ]))
  (refine wpAnyT_take (i := 9) (v := ?_) (by simp only [List.getElem?_toArray, List.getElem?_cons_succ, List.getElem?_cons_zero]; rfl) (by kernel_rfl) (by kernel_rfl) (by kernel_rfl) (by kernel_rfl) (by intro _ _ _ h; exact h) (Or.inl ⟨by rfl, ?_⟩) (by assumption) ?_; rotate_left; (focus (intro wS hSw; (try dsimp only at hSw); go_simp; (try with_reducible rfl))); (try simp only [Act.put, List.setIfInBounds_toArray, List.set_cons_zero, List.set_cons_succ]))
  refine wpAnyT_ready (rs := [4]) (by kernel_rfl) (by kernel_rfl) ?_
  refine AllReadyT.cons (by simp only [List.getElem?_toArray, List.getElem?_cons_succ, List.getElem?_cons_zero]; rfl) (fun K hK => ?_) AllReadyT.nil
  go_simp
  refine hK.out _ _ ?_ (fun hHeld => ?_)
  · (try dsimp only)
    first | done | trivial
  clear hK K
  (try simp only [Act.put, List.setIfInBounds_toArray, List.set_cons_zero, List.set_cons_succ])
  refine wpAnyT_ready (rs := [5]) (by kernel_rfl) (by kernel_rfl) ?_
  refine AllReadyT.cons (by simp only [List.getElem?_toArray, List.getElem?_cons_succ, List.getElem?_cons_zero]; rfl) (fun K hK => ?_) AllReadyT.nil
  (go_simp; (refine (of_any tears w2.heap.size 8 8 ((hR2.drew).alloc _) (by omega) rfl (by omega) (by omega) (by omega) (alloc_vals w2.drew ((tears).map Value.string) _)).mono ?_); rintro e w3 ⟨t, rfl, ht⟩; have hR3 := ht.rd; have hO3 := ht.only; have htz := tears_small t ht.mem; have hs3 : ¬ 9223372036854775807 < s1.size + t.size := (by omega); clear ht)
  refine hK.out _ _ ?_ (fun hHeld => ?_)
  · (try dsimp only)
    first | done | trivial
  clear hK K
  (try simp only [Act.put, List.setIfInBounds_toArray, List.set_cons_zero, List.set_cons_succ])
  (refine wpAnyT_take (i := 6) (v := ?_) (by simp only [List.getElem?_toArray, List.getElem?_cons_succ, List.getElem?_cons_zero]; rfl) (by kernel_rfl) (by kernel_rfl) (by kernel_rfl) (by kernel_rfl) (by intro _ _ _ h; exact h) (Or.inl ⟨by rfl, ?_⟩) (by assumption) ?_; rotate_left; (focus (intro wS hSw; (try dsimp only at hSw); go_simp; (try with_reducible rfl))); (try simp only [Act.put, List.setIfInBounds_toArray, List.set_cons_zero, List.set_cons_succ]))
  refine wpAnyT_ready (rs := [10]) (by kernel_rfl) (by kernel_rfl) ?_
  refine AllReadyT.cons (by simp only [List.getElem?_toArray, List.getElem?_cons_succ, List.getElem?_cons_zero]; rfl) (fun K hK => ?_) AllReadyT.nil
  (go_simp; (refine (pick_any 2 hR3 (by omega) (by omega) (by omega)).mono ?_); rintro e w4 ⟨r2, rfl, hr2⟩; have hr20 := hr2.lo; have hr21 := hr2.hi (by omega); have hR4 := hr2.rd; have hO4 := hr2.only; clear hr2)
  refine hK.out _ _ ?_ (fun hHeld => ?_)
  · (try dsimp only)
    first | done | trivial
  clear hK K
  (try simp only [Act.put, List.setIfInBounds_toArray, List.set_cons_zero, List.set_cons_succ])
  obtain ⟨r3, rfl⟩ := Int.eq_ofNat_of_zero_le hr20
  obtain ⟨j, hj⟩ : ∃ j, k + r3 = j := ⟨_, rfl⟩
  have hw : IntKind.i64.wrap ((k : Int) + (r3 : Int)) = (j : Int) := by rw [IntWalk.i64_in _ (by omega)]; omega
  have hj1 : (j : Int) ≤ (s.size : Int) := by omega
  have hj0 : (0 : Int) ≤ (j : Int) := by omega
  obtain ⟨s2, hs2⟩ : ∃ s2, s.extract j s.size = s2 := ⟨_, rfl⟩
  have hs2z : s2.size ≤ s.size - k := by rw [← hs2, ByteArray.size_extract]; omega
  have hs4 : ¬ 9223372036854775807 < s1.size + t.size + s2.size := by omega
  (refine wpAnyT_take (i := 11) (v := ?_) (by simp only [List.getElem?_toArray, List.getElem?_cons_succ, List.getElem?_cons_zero]; rfl) (by kernel_rfl) (by kernel_rfl) (by kernel_rfl) (by kernel_rfl) (by intro _ _ _ h; exact h) (Or.inl ⟨by rfl, ?_⟩) (by assumption) ?_; rotate_left; (focus (intro wS hSw; (try dsimp only at hSw); go_simp; (try with_reducible rfl))); (try simp only [Act.put, List.setIfInBounds_toArray, List.set_cons_zero, List.set_cons_succ]))
  (refine wpAnyT_take (i := 12) (v := ?_) (by simp only [List.getElem?_toArray, List.getElem?_cons_succ, List.getElem?_cons_zero]; rfl) (by kernel_rfl) (by kernel_rfl) (by kernel_rfl) (by kernel_rfl) (by intro _ _ _ h; exact h) (Or.inl ⟨by rfl, ?_⟩) (by assumption) ?_; rotate_left; (focus (intro wS hSw; (try dsimp only at hSw); go_simp; (try with_reducible rfl))); (try simp only [Act.put, List.setIfInBounds_toArray, List.set_cons_zero, List.set_cons_succ]))
  (refine wpAnyT_take (i := 13) (v := ?_) (by simp only [List.getElem?_toArray, List.getElem?_cons_succ, List.getElem?_cons_zero]; rfl) (by kernel_rfl) (by kernel_rfl) (by kernel_rfl) (by kernel_rfl) (by intro _ _ _ h; exact h) (Or.inl ⟨by rfl, ?_⟩) (by assumption) ?_; rotate_left; (focus (intro wS hSw; (try dsimp only at hSw); go_simp; (try with_reducible rfl))); (try simp only [Act.put, List.setIfInBounds_toArray, List.set_cons_zero, List.set_cons_succ]))
  refine wpAnyT_done (by kernel_rfl) ?_
  simp only [List.drop_succ_cons, List.drop_zero]
  go_wp2
  go_ret
  refine ⟨_, rfl, ?_, ?_⟩
  · simp
    omega
  · have hO5 : Only g w (w2.drew.alloc (.cells (List.map Value.string tears).toArray 9)) := hO2.below ((Below.drew (Below.refl _ _)).alloc (Nat.le_refl _) _)
    have hO6 := (hO5.trans hO3).trans hO4
    exact ⟨⟨_, by omega, hR4⟩, hO6⟩
end Go.Proofs.Ytgmeoblapnmpiaa
