/- Torn texts are drawn. -/
import Derived.Test.YtkbohgabifpceaaDoorS
import Derived.Test.YtkbohgabifpceaaDoorT
import Derived.Test.YtkbohgabifpceaaDoorRr
import Derived.Deep.AppendLies
namespace Go.Proofs.YtkbohgabifpceaaDoor
set_option maxRecDepth 100000
open Go.RowKit Go.ChangeShapes Go.WideShapes Go.ChangeAt
set_option linter.unusedSimpArgs false
set_option linter.unusedVariables false

/-- What 'of' gives: one of the list. -/
structure Ofed (g : Nat) (A : Option Addr) (cap : Nat) (bs : List UInt8) (p : Nat) (xs : List ByteArray) (w : World) (r : ByteArray) (w' : World) : Prop where
  mem : r ∈ xs
  rd : Rd w' g A cap bs (p + 1)
  only : Only g w w'
set_option maxHeartbeats 400000 in
theorem of_any {g : Nat} {A : Option Addr} {cap : Nat} {bs : List UInt8} {p : Nat} (xs : List ByteArray) (b m c : Nat) {w : World} (h : Rd w g A cap bs p) (hp : p ≤ 1000000) (hm : m = xs.length) (hm1 : 1 ≤ m) (hm2 : m ≤ 100)
    (hb : b ≠ g) (hx : ∀ j v, (xs.map Value.string)[j]? = some v → w.cell? ⟨b, j, none⟩ = some v) :
    Calls Tryd.prog 55 #[.pointer (some ⟨g, 0, none⟩), .slice (some ⟨b, 0, none⟩) m c] w fun e w' => ∃ r : ByteArray, e = .returned (.string r) ∧ Ofed g A cap bs p xs w r w' := by
  have HX := Lib.hid hx
  have HM := Lib.hid hm
  clear hx hm
  go_enter Tryd.func55, Tryd.ntmps55
  go_wp2_with fail
  refine (pick_any (m : Int) h hp (by omega) (by omega)).mono ?_
  rintro e w1 ⟨r, rfl, hr⟩
  have hr0 := hr.lo
  have hr1 := hr.hi (by omega)
  obtain ⟨k, rfl⟩ := Int.eq_ofNat_of_zero_le hr0
  have hk : k < xs.length := by have := HM.out; omega
  have hv := HX.out k (.string xs[k]) (by rw [List.getElem?_map, List.getElem?_eq_getElem hk]; rfl)
  have hc : w1.cell? ⟨b, k, none⟩ = some (.string xs[k]) := by
    rw [← hv]
    have hlt : b < w.heap.size := World.block_lt_of_cell? _ _ hv
    exact World.cell?_of_block (w := w) (a := ⟨b, k, none⟩) (hr.only.block b hlt (fun e => hb (by injection e)))
  have hmem : xs[k] ∈ xs := List.getElem_mem hk
  have HR := Lib.hid (And.intro hr hmem)
  clear hr hmem hv
  generalize xs[k] = v at *
  go_wp2
  go_ret
  exact ⟨v, rfl, HR.out.2, HR.out.1.rd, HR.out.1.only⟩
theorem alloc_vals (W : World) (vs : List Value) (t : TypeId) : ∀ j v, vs[j]? = some v → (W.alloc (.cells vs.toArray t)).cell? ⟨W.heap.size, j, none⟩ = some v := by
  intro j v hv
  have h := World.news_of_block (cs := vs.toArray) (t := t) (fr := (0, 0)) (heap_alloc_new W _) j v (by simpa using hv)
  have e : (⟨W.heap.size, 0, none⟩ : Addr).add j = ⟨W.heap.size, j, none⟩ := by unfold Addr.add; split <;> simp_all
  rw [e] at h
  exact h
def tears : List ByteArray := [⟨#[]⟩, ⟨#[32]⟩, ⟨#[48]⟩, ⟨#[45]⟩, ⟨#[49]⟩, ⟨#[60]⟩, ⟨#[61]⟩, ⟨#[40]⟩]
theorem tears_small : ∀ t ∈ tears, t.size ≤ 1 := by decide

set_option maxRecDepth 100000 in
set_option maxHeartbeats 2000000 in
theorem l2Torn_any {g : Nat} {A : Option Addr} {cap : Nat} {bs : List UInt8} {p : Nat} (s : ByteArray) (hs : s.size ≤ 1000000) {w : World} (h : Rd w g A cap bs p) (hp : p ≤ 900000) :
    Calls Tryd.prog 68 #[.pointer (some ⟨g, 0, none⟩), .string s] w fun e w' => ∃ t : ByteArray, e = .returned (.string t) ∧ t.size ≤ s.size + 1 ∧ Moved g A cap bs p 4 w w' := by
  have hgl := h.lt
  go_enter Tryd.func68, Tryd.ntmps68
  by_cases h0 : s.size = 0
  · have g0 : ((s.size : Int) == 0) = true := by rw [h0]; rfl
    go_wp2_with fail
    go_ret
    exact ⟨s, rfl, by omega, ⟨⟨p, by omega, h⟩, Only.refl _ _⟩⟩
  have g0 : ((s.size : Int) == 0) = false := by rw [beq_eq_false_iff_ne]; omega
  have hsp : 0 < s.size := by omega
  go_wp2_with fail
  refine (pick_any 2 h (by omega) (by omega) (by omega)).mono ?_
  rintro e w1 ⟨r0, rfl, hr⟩
  have hR1 := hr.rd
  have hO1 := hr.only
  have hz1 := hO1.size
  clear hr
  by_cases q0 : r0 = 0
  · subst q0
    go_wp2_with fail
    go_ret
    exact ⟨s, rfl, by omega, ⟨⟨p + 1, by omega, hR1⟩, hO1⟩⟩
  have q0' : (r0 == 0) = false := by simpa using q0
  go_wp2_with fail
  refine (pick_any (s.size : Int) hR1 (by omega) (by omega) (by omega)).mono ?_
  rintro e w2 ⟨r, rfl, hr⟩
  have hr0 := hr.lo
  have hr1 := hr.hi (by omega)
  obtain ⟨k, rfl⟩ := Int.eq_ofNat_of_zero_le hr0
  have hk : k < s.size := by omega
  have hki : (k : Int) ≤ (s.size : Int) := by omega
  obtain ⟨s1, hs1⟩ : ∃ s1, s.extract 0 k = s1 := ⟨_, rfl⟩
  have hs1z : s1.size ≤ k := by rw [← hs1, ByteArray.size_extract]; omega
  have hR2 := hr.rd
  have hO2 := hO1.trans hr.only
  have hz2 := hO2.size
  clear hr hO1 hR1
  go_wp2_with fail
  refine wp_region_T 14 (fun w' => True) (by kernel_rfl) (by kernel_rfl) ?_ (fun hHeld => ?_)
  · trivial
  (refine wpAnyT_take (i := 0) (v := ?_) (by simp only [List.getElem?_toArray, List.getElem?_cons_succ, List.getElem?_cons_zero]; rfl) (by kernel_rfl) (by kernel_rfl) (by kernel_rfl) (by kernel_rfl) (by intro _ _ _ h; exact h) (Or.inl ⟨by rfl, ?_⟩) (by assumption) ?_; rotate_left; (focus (intro wS hSw; (try dsimp only at hSw); go_simp; (try with_reducible rfl))); (try simp only [Act.put, List.setIfInBounds_toArray, List.set_cons_zero, List.set_cons_succ]))
  (refine wpAnyT_take (i := 1) (v := ?_) (by simp only [List.getElem?_toArray, List.getElem?_cons_succ, List.getElem?_cons_zero]; rfl) (by kernel_rfl) (by kernel_rfl) (by kernel_rfl) (by kernel_rfl) (by intro _ _ _ h; exact h) (Or.inl ⟨by rfl, ?_⟩) (by assumption) ?_; rotate_left; (focus (intro wS hSw; (try dsimp only at hSw); go_simp; (try with_reducible rfl))); (try simp only [Act.put, List.setIfInBounds_toArray, List.set_cons_zero, List.set_cons_succ]))
  (refine wpAnyT_take (i := 2) (v := ?_) (by simp only [List.getElem?_toArray, List.getElem?_cons_succ, List.getElem?_cons_zero]; rfl) (by kernel_rfl) (by kernel_rfl) (by kernel_rfl) (by kernel_rfl) (by intro _ _ _ h; exact h) (Or.inl ⟨by rfl, ?_⟩) (by assumption) ?_; rotate_left; (focus (intro wS hSw; (try dsimp only at hSw); go_simp; (try with_reducible rfl))); (try simp only [Act.put, List.setIfInBounds_toArray, List.set_cons_zero, List.set_cons_succ]))
  (refine wpAnyT_take (i := 3) (v := ?_) (by simp only [List.getElem?_toArray, List.getElem?_cons_succ, List.getElem?_cons_zero]; rfl) (by kernel_rfl) (by kernel_rfl) (by kernel_rfl) (by kernel_rfl) (by intro _ _ _ h; exact h) (Or.inl ⟨by rfl, ?_⟩) (by assumption) ?_; rotate_left; (focus (intro wS hSw; (try dsimp only at hSw); go_simp; (try with_reducible rfl))); (try simp only [Act.put, List.setIfInBounds_toArray, List.set_cons_zero, List.set_cons_succ]))
  (refine wpAnyT_take (i := 7) (v := ?_) (by simp only [List.getElem?_toArray, List.getElem?_cons_succ, List.getElem?_cons_zero]; rfl) (by kernel_rfl) (by kernel_rfl) (by kernel_rfl) (by kernel_rfl) (by intro _ _ _ h; exact h) (Or.inl ⟨by rfl, ?_⟩) (by assumption) ?_; rotate_left; (focus (intro wS hSw; (try dsimp only at hSw); go_simp; (try with_reducible rfl))); (try simp only [Act.put, List.setIfInBounds_toArray, List.set_cons_zero, List.set_cons_succ]))
  (refine wpAnyT_take (i := 8) (v := ?_) (by simp only [List.getElem?_toArray, List.getElem?_cons_succ, List.getElem?_cons_zero]; rfl) (by kernel_rfl) (by kernel_rfl) (by kernel_rfl) (by kernel_rfl) (by intro _ _ _ h; exact h) (Or.inl ⟨by rfl, ?_⟩) (by assumption) ?_; rotate_left; (focus (intro wS hSw; (try dsimp only at hSw); go_simp; (try with_reducible rfl))); (try simp only [Act.put, List.setIfInBounds_toArray, List.set_cons_zero, List.set_cons_succ]))
  (refine wpAnyT_take (i := 9) (v := ?_) (by simp only [List.getElem?_toArray, List.getElem?_cons_succ, List.getElem?_cons_zero]; rfl) (by kernel_rfl) (by kernel_rfl) (by kernel_rfl) (by kernel_rfl) (by intro _ _ _ h; exact h) (Or.inl ⟨by rfl, ?_⟩) (by assumption) ?_; rotate_left; (focus (intro wS hSw; (try dsimp only at hSw); go_simp; (try with_reducible rfl))); (try simp only [Act.put, List.setIfInBounds_toArray, List.set_cons_zero, List.set_cons_succ]))
  refine wpAnyT_ready (rs := [4]) (by kernel_rfl) (by kernel_rfl) ?_
  refine AllReadyT.cons (by simp only [List.getElem?_toArray, List.getElem?_cons_succ, List.getElem?_cons_zero]; rfl) (fun K hK => ?_) AllReadyT.nil
  go_simp
  refine hK.out _ _ ?_ (fun hHeld => ?_)
  · (try dsimp only)
    first | done | trivial
  clear hK K
  (try simp only [Act.put, List.setIfInBounds_toArray, List.set_cons_zero, List.set_cons_succ])
  refine wpAnyT_ready (rs := [5]) (by kernel_rfl) (by kernel_rfl) ?_
  refine AllReadyT.cons (by simp only [List.getElem?_toArray, List.getElem?_cons_succ, List.getElem?_cons_zero]; rfl) (fun K hK => ?_) AllReadyT.nil
  (go_simp; (refine (of_any tears w2.heap.size 8 8 ((hR2.drew).alloc _) (by omega) rfl (by omega) (by omega) (by omega) (alloc_vals w2.drew ((tears).map Value.string) _)).mono ?_); rintro e w3 ⟨t, rfl, ht⟩; have hR3 := ht.rd; have hO3 := ht.only; have htz := tears_small t ht.mem; have hs3 : ¬ 9223372036854775807 < s1.size + t.size := (by omega); clear ht)
  refine hK.out _ _ ?_ (fun hHeld => ?_)
  · (try dsimp only)
    first | done | trivial
  clear hK K
  (try simp only [Act.put, List.setIfInBounds_toArray, List.set_cons_zero, List.set_cons_succ])
  (refine wpAnyT_take (i := 6) (v := ?_) (by simp only [List.getElem?_toArray, List.getElem?_cons_succ, List.getElem?_cons_zero]; rfl) (by kernel_rfl) (by kernel_rfl) (by kernel_rfl) (by kernel_rfl) (by intro _ _ _ h; exact h) (Or.inl ⟨by rfl, ?_⟩) (by assumption) ?_; rotate_left; (focus (intro wS hSw; (try dsimp only at hSw); go_simp; (try with_reducible rfl))); (try simp only [Act.put, List.setIfInBounds_toArray, List.set_cons_zero, List.set_cons_succ]))
  refine wpAnyT_ready (rs := [10]) (by kernel_rfl) (by kernel_rfl) ?_
  refine AllReadyT.cons (by simp only [List.getElem?_toArray, List.getElem?_cons_succ, List.getElem?_cons_zero]; rfl) (fun K hK => ?_) AllReadyT.nil
  (go_simp; (refine (pick_any 2 hR3 (by omega) (by omega) (by omega)).mono ?_); rintro e w4 ⟨r2, rfl, hr2⟩; have hr20 := hr2.lo; have hr21 := hr2.hi (by omega); have hR4 := hr2.rd; have hO4 := hr2.only; clear hr2)
  refine hK.out _ _ ?_ (fun hHeld => ?_)
  · (try dsimp only)
    first | done | trivial
  clear hK K
  (try simp only [Act.put, List.setIfInBounds_toArray, List.set_cons_zero, List.set_cons_succ])
  obtain ⟨r3, rfl⟩ := Int.eq_ofNat_of_zero_le hr20
  obtain ⟨j, hj⟩ : ∃ j, k + r3 = j := ⟨_, rfl⟩
  have hw : IntKind.i64.wrap ((k : Int) + (r3 : Int)) = (j : Int) := by rw [IntWalk.i64_in _ (by omega)]; omega
  have hj1 : (j : Int) ≤ (s.size : Int) := by omega
  have hj0 : (0 : Int) ≤ (j : Int) := by omega
  obtain ⟨s2, hs2⟩ : ∃ s2, s.extract j s.size = s2 := ⟨_, rfl⟩
  have hs2z : s2.size ≤ s.size - k := by rw [← hs2, ByteArray.size_extract]; omega
  have hs4 : ¬ 9223372036854775807 < s1.size + t.size + s2.size := by omega
  (refine wpAnyT_take (i := 11) (v := ?_) (by simp only [List.getElem?_toArray, List.getElem?_cons_succ, List.getElem?_cons_zero]; rfl) (by kernel_rfl) (by kernel_rfl) (by kernel_rfl) (by kernel_rfl) (by intro _ _ _ h; exact h) (Or.inl ⟨by rfl, ?_⟩) (by assumption) ?_; rotate_left; (focus (intro wS hSw; (try dsimp only at hSw); go_simp; (try with_reducible rfl))); (try simp only [Act.put, List.setIfInBounds_toArray, List.set_cons_zero, List.set_cons_succ]))
  (refine wpAnyT_take (i := 12) (v := ?_) (by simp only [List.getElem?_toArray, List.getElem?_cons_succ, List.getElem?_cons_zero]; rfl) (by kernel_rfl) (by kernel_rfl) (by kernel_rfl) (by kernel_rfl) (by intro _ _ _ h; exact h) (Or.inl ⟨by rfl, ?_⟩) (by assumption) ?_; rotate_left; (focus (intro wS hSw; (try dsimp only at hSw); go_simp; (try with_reducible rfl))); (try simp only [Act.put, List.setIfInBounds_toArray, List.set_cons_zero, List.set_cons_succ]))
  (refine wpAnyT_take (i := 13) (v := ?_) (by simp only [List.getElem?_toArray, List.getElem?_cons_succ, List.getElem?_cons_zero]; rfl) (by kernel_rfl) (by kernel_rfl) (by kernel_rfl) (by kernel_rfl) (by intro _ _ _ h; exact h) (Or.inl ⟨by rfl, ?_⟩) (by assumption) ?_; rotate_left; (focus (intro wS hSw; (try dsimp only at hSw); go_simp; (try with_reducible rfl))); (try simp only [Act.put, List.setIfInBounds_toArray, List.set_cons_zero, List.set_cons_succ]))
  refine wpAnyT_done (by kernel_rfl) ?_
  simp only [List.drop_succ_cons, List.drop_zero]
  go_wp2
  go_ret
  refine ⟨_, rfl, ?_, ?_⟩
  · simp
    omega
  · have hO5 : Only g w (w2.drew.alloc (.cells (List.map Value.string tears).toArray 9)) := hO2.below ((Below.drew (Below.refl _ _)).alloc (Nat.le_refl _) _)
    have hO6 := (hO5.trans hO3).trans hO4
    exact ⟨⟨_, by omega, hR4⟩, hO6⟩

def ratTears : List ByteArray := [⟨#[]⟩, ⟨#[47]⟩, ⟨#[48]⟩, ⟨#[45]⟩, ⟨#[49]⟩, ⟨#[32]⟩, ⟨#[50]⟩]
theorem ratTears_small : ∀ t ∈ ratTears, t.size ≤ 1 := by decide
theorem ratTextL_len {n d : Int} (h : ratOk n d = true) : (ratTextL n d).length ≤ 43 := by
  obtain ⟨⟨n0, n1⟩, ⟨d0, d1⟩, _⟩ := ratOk_iff.1 h
  have l1 := Lib.itoa_length_le n (by omega) (by omega)
  have l2 := Lib.itoa_length_le d (by omega) (by omega)
  unfold ratTextL
  split
  · omega
  · simp only [List.length_append, List.length_cons]; omega
/-- writing a fraction gives a short text -/
theorem sRatText_some (n d : Int) (w : World) :
    Calls Tryd.prog 14 #[.agg #[.int .i64 n, .int .i64 d]] w fun e w' => ∃ s : ByteArray, e = .returned (.string s) ∧ s.size ≤ 43 ∧ Below w.heap.size w w' := by
  cases hk : ratOk n d
  · refine (sRatText_no (Lib.hid hk) w).mono ?_
    rintro e w' ⟨rfl, hb⟩
    exact ⟨_, rfl, by decide, hb⟩
  · refine (sRatText_any (Lib.hid hk) w).mono ?_
    rintro e w' ⟨rfl, hb⟩
    exact ⟨_, rfl, by rw [strB_size]; exact ratTextL_len hk, hb⟩
set_option maxRecDepth 100000 in
set_option maxHeartbeats 2000000 in
theorem DrawRatRead_any {A : Option Addr} {cap : Nat} {bs : List UInt8} {w : World} (h : Code8 w A cap bs) (hl : bs.length ≤ 1048576) :
    Calls Tryd.prog 16 #[.slice A bs.length cap] w fun e w' => ∃ t : ByteArray, e = .returned (.string t) ∧ t.size ≤ 1048576 ∧ Below w.heap.size w w' := by
  go_enter Tryd.func16, Tryd.ntmps16
  go_wp2_with fail
  refine (l16Open_any (h).bytes hl (h).cap).mono ?_
  rintro e wa ⟨bs', rfl, hR1, hb1⟩
  have hsa := hb1.size
  have hBa : Below w.heap.size w wa := hb1
  clear hb1
  obtain ⟨g, hg⟩ : ∃ g, w.heap.size = g := ⟨_, rfl⟩
  rw [hg] at hR1 hBa ⊢
  go_wp2_with fail
  refine (l1Rat_any hR1 (by omega)).mono ?_
  rintro e wb ⟨x, y, rfl, hxy, ⟨⟨pb, hpb, hRb⟩, hOb⟩⟩
  have hsb := hOb.size
  have hBb : Below g w wb := hBa.trans (hOb.base (by omega) (by omega))
  clear hOb hBa hR1
  go_wp2_with fail
  refine (sRatText_some x y _).mono ?_
  rintro e wc ⟨s, rfl, hs43, hb1⟩
  have hsc := hb1.size
  have hBc : Below g w wc := hBb.trans (hb1.mono (by omega))
  have hRc := hRb.grown hb1
  have hgl := hRc.lt
  clear hb1 hBb hRb
  obtain ⟨p, hp⟩ : ∃ p, pb = p := ⟨_, rfl⟩
  subst hp
  have hp : pb ≤ 900000 := by omega
  by_cases h0 : s.size = 0
  · have g0 : ((s.size : Int) == 0) = true := by rw [h0]; rfl
    go_wp2_with fail
    go_ret
    exact ⟨s, rfl, by omega, (by rw [hg]; exact hBc)⟩
  have g0 : ((s.size : Int) == 0) = false := by rw [beq_eq_false_iff_ne]; omega
  have hsp : 0 < s.size := by omega
  go_wp2_with fail
  refine (pick_any 2 hRc (by omega) (by omega) (by omega)).mono ?_
  rintro e w1 ⟨r0, rfl, hr⟩
  have hR1 := hr.rd
  have hO1 := hr.only
  have hz1 := hO1.size
  clear hr
  by_cases q0 : r0 = 0
  · subst q0
    go_wp2_with fail
    go_ret
    exact ⟨s, rfl, by omega, (by rw [hg]; exact hBc.trans (hO1.base (by omega) (by omega)))⟩
  have q0' : (r0 == 0) = false := by simpa using q0
  go_wp2_with fail
  refine (pick_any (s.size : Int) hR1 (by omega) (by omega) (by omega)).mono ?_
  rintro e w2 ⟨r, rfl, hr⟩
  have hr0 := hr.lo
  have hr1 := hr.hi (by omega)
  obtain ⟨k, rfl⟩ := Int.eq_ofNat_of_zero_le hr0
  have hk : k < s.size := by omega
  have hki : (k : Int) ≤ (s.size : Int) := by omega
  obtain ⟨s1, hs1⟩ : ∃ s1, s.extract 0 k = s1 := ⟨_, rfl⟩
  have hs1z : s1.size ≤ k := by rw [← hs1, ByteArray.size_extract]; omega
  have hR2 := hr.rd
  have hO2 := hO1.trans hr.only
  have hz2 := hO2.size
  clear hr hO1 hR1
  go_wp2_with fail
  refine wp_region_T 14 (fun w' => True) (by kernel_rfl) (by kernel_rfl) ?_ (fun hHeld => ?_)
  · trivial
  (refine wpAnyT_take (i := 0) (v := ?_) (by simp only [List.getElem?_toArray, List.getElem?_cons_succ, List.getElem?_cons_zero]; rfl) (by kernel_rfl) (by kernel_rfl) (by kernel_rfl) (by kernel_rfl) (by intro _ _ _ h; exact h) (Or.inl ⟨by rfl, ?_⟩) (by assumption) ?_; rotate_left; (focus (intro wS hSw; (try dsimp only at hSw); go_simp; (try with_reducible rfl))); (try simp only [Act.put, List.setIfInBounds_toArray, List.set_cons_zero, List.set_cons_succ]))
  (refine wpAnyT_take (i := 1) (v := ?_) (by simp only [List.getElem?_toArray, List.getElem?_cons_succ, List.getElem?_cons_zero]; rfl) (by kernel_rfl) (by kernel_rfl) (by kernel_rfl) (by kernel_rfl) (by intro _ _ _ h; exact h) (Or.inl ⟨by rfl, ?_⟩) (by assumption) ?_; rotate_left; (focus (intro wS hSw; (try dsimp only at hSw); go_simp; (try with_reducible rfl))); (try simp only [Act.put, List.setIfInBounds_toArray, List.set_cons_zero, List.set_cons_succ]))
  (refine wpAnyT_take (i := 2) (v := ?_) (by simp only [List.getElem?_toArray, List.getElem?_cons_succ, List.getElem?_cons_zero]; rfl) (by kernel_rfl) (by kernel_rfl) (by kernel_rfl) (by kernel_rfl) (by intro _ _ _ h; exact h) (Or.inl ⟨by rfl, ?_⟩) (by assumption) ?_; rotate_left; (focus (intro wS hSw; (try dsimp only at hSw); go_simp; (try with_reducible rfl))); (try simp only [Act.put, List.setIfInBounds_toArray, List.set_cons_zero, List.set_cons_succ]))
  (refine wpAnyT_take (i := 3) (v := ?_) (by simp only [List.getElem?_toArray, List.getElem?_cons_succ, List.getElem?_cons_zero]; rfl) (by kernel_rfl) (by kernel_rfl) (by kernel_rfl) (by kernel_rfl) (by intro _ _ _ h; exact h) (Or.inl ⟨by rfl, ?_⟩) (by assumption) ?_; rotate_left; (focus (intro wS hSw; (try dsimp only at hSw); go_simp; (try with_reducible rfl))); (try simp only [Act.put, List.setIfInBounds_toArray, List.set_cons_zero, List.set_cons_succ]))
  (refine wpAnyT_take (i := 7) (v := ?_) (by simp only [List.getElem?_toArray, List.getElem?_cons_succ, List.getElem?_cons_zero]; rfl) (by kernel_rfl) (by kernel_rfl) (by kernel_rfl) (by kernel_rfl) (by intro _ _ _ h; exact h) (Or.inl ⟨by rfl, ?_⟩) (by assumption) ?_; rotate_left; (focus (intro wS hSw; (try dsimp only at hSw); go_simp; (try with_reducible rfl))); (try simp only [Act.put, List.setIfInBounds_toArray, List.set_cons_zero, List.set_cons_succ]))
  (refine wpAnyT_take (i := 8) (v := ?_) (by simp only [List.getElem?_toArray, List.getElem?_cons_succ, List.getElem?_cons_zero]; rfl) (by kernel_rfl) (by kernel_rfl) (by kernel_rfl) (by kernel_rfl) (by intro _ _ _ h; exact h) (Or.inl ⟨by rfl, ?_⟩) (by assumption) ?_; rotate_left; (focus (intro wS hSw; (try dsimp only at hSw); go_simp; (try with_reducible rfl))); (try simp only [Act.put, List.setIfInBounds_toArray, List.set_cons_zero, List.set_cons_succ]))
  (refine wpAnyT_take (i := 9) (v := ?_) (by simp only [List.getElem?_toArray, List.getElem?_cons_succ, List.getElem?_cons_zero]; rfl) (by kernel_rfl) (by kernel_rfl) (by kernel_rfl) (by kernel_rfl) (by intro _ _ _ h; exact h) (Or.inl ⟨by rfl, ?_⟩) (by assumption) ?_; rotate_left; (focus (intro wS hSw; (try dsimp only at hSw); go_simp; (try with_reducible rfl))); (try simp only [Act.put, List.setIfInBounds_toArray, List.set_cons_zero, List.set_cons_succ]))
  refine wpAnyT_ready (rs := [4]) (by kernel_rfl) (by kernel_rfl) ?_
  refine AllReadyT.cons (by simp only [List.getElem?_toArray, List.getElem?_cons_succ, List.getElem?_cons_zero]; rfl) (fun K hK => ?_) AllReadyT.nil
  go_simp
  refine hK.out _ _ ?_ (fun hHeld => ?_)
  · (try dsimp only)
    first | done | trivial
  clear hK K
  (try simp only [Act.put, List.setIfInBounds_toArray, List.set_cons_zero, List.set_cons_succ])
  refine wpAnyT_ready (rs := [5]) (by kernel_rfl) (by kernel_rfl) ?_
  refine AllReadyT.cons (by simp only [List.getElem?_toArray, List.getElem?_cons_succ, List.getElem?_cons_zero]; rfl) (fun K hK => ?_) AllReadyT.nil
  (go_simp; (refine (of_any ratTears w2.heap.size 7 7 ((hR2.drew).alloc _) (by omega) rfl (by omega) (by omega) (by omega) (alloc_vals w2.drew ((ratTears).map Value.string) _)).mono ?_); rintro e w3 ⟨t, rfl, ht⟩; have hR3 := ht.rd; have hO3 := ht.only; have htz := ratTears_small t ht.mem; have hs3 : ¬ 9223372036854775807 < s1.size + t.size := (by omega); clear ht)
  refine hK.out _ _ ?_ (fun hHeld => ?_)
  · (try dsimp only)
    first | done | trivial
  clear hK K
  (try simp only [Act.put, List.setIfInBounds_toArray, List.set_cons_zero, List.set_cons_succ])
  (refine wpAnyT_take (i := 6) (v := ?_) (by simp only [List.getElem?_toArray, List.getElem?_cons_succ, List.getElem?_cons_zero]; rfl) (by kernel_rfl) (by kernel_rfl) (by kernel_rfl) (by kernel_rfl) (by intro _ _ _ h; exact h) (Or.inl ⟨by rfl, ?_⟩) (by assumption) ?_; rotate_left; (focus (intro wS hSw; (try dsimp only at hSw); go_simp; (try with_reducible rfl))); (try simp only [Act.put, List.setIfInBounds_toArray, List.set_cons_zero, List.set_cons_succ]))
  refine wpAnyT_ready (rs := [10]) (by kernel_rfl) (by kernel_rfl) ?_
  refine AllReadyT.cons (by simp only [List.getElem?_toArray, List.getElem?_cons_succ, List.getElem?_cons_zero]; rfl) (fun K hK => ?_) AllReadyT.nil
  (go_simp; (refine (pick_any 2 hR3 (by omega) (by omega) (by omega)).mono ?_); rintro e w4 ⟨r2, rfl, hr2⟩; have hr20 := hr2.lo; have hr21 := hr2.hi (by omega); have hR4 := hr2.rd; have hO4 := hr2.only; clear hr2)
  refine hK.out _ _ ?_ (fun hHeld => ?_)
  · (try dsimp only)
    first | done | trivial
  clear hK K
  (try simp only [Act.put, List.setIfInBounds_toArray, List.set_cons_zero, List.set_cons_succ])
  obtain ⟨r3, rfl⟩ := Int.eq_ofNat_of_zero_le hr20
  obtain ⟨j, hj⟩ : ∃ j, k + r3 = j := ⟨_, rfl⟩
  have hw : IntKind.i64.wrap ((k : Int) + (r3 : Int)) = (j : Int) := by rw [IntWalk.i64_in _ (by omega)]; omega
  have hj1 : (j : Int) ≤ (s.size : Int) := by omega
  have hj0 : (0 : Int) ≤ (j : Int) := by omega
  obtain ⟨s2, hs2⟩ : ∃ s2, s.extract j s.size = s2 := ⟨_, rfl⟩
  have hs2z : s2.size ≤ s.size - k := by rw [← hs2, ByteArray.size_extract]; omega
  have hs4 : ¬ 9223372036854775807 < s1.size + t.size + s2.size := by omega
  (refine wpAnyT_take (i := 11) (v := ?_) (by simp only [List.getElem?_toArray, List.getElem?_cons_succ, List.getElem?_cons_zero]; rfl) (by kernel_rfl) (by kernel_rfl) (by kernel_rfl) (by kernel_rfl) (by intro _ _ _ h; exact h) (Or.inl ⟨by rfl, ?_⟩) (by assumption) ?_; rotate_left; (focus (intro wS hSw; (try dsimp only at hSw); go_simp; (try with_reducible rfl))); (try simp only [Act.put, List.setIfInBounds_toArray, List.set_cons_zero, List.set_cons_succ]))
  (refine wpAnyT_take (i := 12) (v := ?_) (by simp only [List.getElem?_toArray, List.getElem?_cons_succ, List.getElem?_cons_zero]; rfl) (by kernel_rfl) (by kernel_rfl) (by kernel_rfl) (by kernel_rfl) (by intro _ _ _ h; exact h) (Or.inl ⟨by rfl, ?_⟩) (by assumption) ?_; rotate_left; (focus (intro wS hSw; (try dsimp only at hSw); go_simp; (try with_reducible rfl))); (try simp only [Act.put, List.setIfInBounds_toArray, List.set_cons_zero, List.set_cons_succ]))
  (refine wpAnyT_take (i := 13) (v := ?_) (by simp only [List.getElem?_toArray, List.getElem?_cons_succ, List.getElem?_cons_zero]; rfl) (by kernel_rfl) (by kernel_rfl) (by kernel_rfl) (by kernel_rfl) (by intro _ _ _ h; exact h) (Or.inl ⟨by rfl, ?_⟩) (by assumption) ?_; rotate_left; (focus (intro wS hSw; (try dsimp only at hSw); go_simp; (try with_reducible rfl))); (try simp only [Act.put, List.setIfInBounds_toArray, List.set_cons_zero, List.set_cons_succ]))
  refine wpAnyT_done (by kernel_rfl) ?_
  simp only [List.drop_succ_cons, List.drop_zero]
  go_wp2
  go_ret
  refine ⟨_, rfl, ?_, ?_⟩
  · simp
    omega
  · have hO5 : Only g wc (w2.drew.alloc (.cells (List.map Value.string ratTears).toArray 9)) := hO2.below ((Below.drew (Below.refl _ _)).alloc (Nat.le_refl _) _)
    have hO6 := (hO5.trans hO3).trans hO4
    exact (by rw [hg]; exact hBc.trans (hO6.base (by omega) (by omega)))

theorem DrawRatText_any {A : Option Addr} {cap : Nat} {bs : List UInt8} {w : World} (h : Code8 w A cap bs) (hl : bs.length ≤ 1048576) :
    Calls Tryd.prog 11 #[.slice A bs.length cap] w fun e w' => ∃ n d : Int, e = .returned (.agg #[.int .i64 n, .int .i64 d]) ∧ (I64 n ∧ I64 d) ∧ Below w.heap.size w w' := by
  have hc : Code8 (w.alloc (.cells #[.int .i64 0, .int .i64 0] 24)) A cap bs := h.later ((Below.refl _ _).alloc (Nat.le_refl _) _)
  go_enter Tryd.func11, Tryd.ntmps11
  go_wp2_with fail
  refine (l16Open_any (hc).bytes hl (hc).cap).mono ?_
  rintro e w1 ⟨bs', rfl, hR1, hb1⟩
  have hs1 := hb1.size
  simp only [World.size_alloc] at hs1
  obtain ⟨kc_, fc_, lc_⟩ := keep_later (a := ⟨w.heap.size, 0, none⟩) (v := .int .i64 0) hb1 (by go_simp) (by go_simp); obtain ⟨kc_, fc_, lc_⟩ := keep_later (a := ⟨w.heap.size, 1, none⟩) (v := .int .i64 0) hb1 (by go_simp) (by go_simp)
  have hB1 : Below w.heap.size w w1 := ((Below.refl _ _).alloc (Nat.le_refl _) _).trans (hb1.mono (by simp))
  clear hb1
  simp only [World.size_alloc] at hR1
  go_wp2_with fail
  refine (l1Rat_any hR1 (by omega)).mono ?_
  rintro e w2 ⟨x, y, rfl, hxy, ⟨⟨p2, hp2, hR2⟩, hO2⟩⟩
  have hs2 := hO2.size
  generalize hg : w.heap.size + 1 = g at hO2 hR1 hR2
  obtain ⟨kc_, fc_, lc_⟩ := keep_only (a := ⟨w.heap.size, 0, none⟩) (v := .int .i64 0) hO2 (by show w.heap.size ≠ g; omega) (by go_simp) (by go_simp); obtain ⟨kc_, fc_, lc_⟩ := keep_only (a := ⟨w.heap.size, 1, none⟩) (v := .int .i64 0) hO2 (by show w.heap.size ≠ g; omega) (by go_simp) (by go_simp)
  have hB : Below w.heap.size w w2 := hB1.trans (hO2.base (by omega) (by omega))
  clear hg
  go_wp2
  refine bodyPost_ret (v := .agg #[.int .i64 x, .int .i64 y]) (by simp only [results, Tryd.results11]; go_simp) rfl ⟨x, y, rfl, hxy, ?_⟩
  (repeat (first | with_reducible exact Below.refl _ _ | with_reducible assumption | (with_reducible refine below_drewN ?_ _) | (with_reducible refine Below.drew ?_) | (with_reducible refine Below.setCell ?_ (by first | omega | (simp; done) | (simp; omega)) _) | (with_reducible refine Below.alloc ?_ (by first | omega | (simp; done) | (simp; omega)) _) | refine Below.trans ?_ (Below.mono (by with_reducible assumption) (by first | omega | (simp; done) | (simp; omega)))))
end Go.Proofs.YtkbohgabifpceaaDoor
