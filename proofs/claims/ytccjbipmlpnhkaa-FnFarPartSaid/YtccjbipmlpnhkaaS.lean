/- What the draws of numbers and fractions give. -/
import Derived.Test.YtccjbipmlpnhkaaR
import Derived.Test.YtccjbipmlpnhkaaB
import Derived.ProofKit
namespace Go.Proofs.Ytccjbipmlpnhkaa
set_option maxRecDepth 100000
open Go.RowKit
set_option linter.unusedSimpArgs false
set_option linter.unusedVariables false

/-- The reader is at most k places on; nothing else has turned. -/
structure Moved (g : Nat) (A : Option Addr) (cap : Nat) (bs : List UInt8) (p k : Nat) (w w' : World) : Prop where
  ex : ∃ p', p' ≤ p + k ∧ Rd w' g A cap bs p'
  only : Only g w w'

theorem alloc_list (w : World) (xs : List Int) (t : TypeId) (j : Nat) (hj : j < xs.length) :
    (w.alloc (.cells (xs.map (Value.int .i64)).toArray t)).cell? ⟨w.heap.size, 0 + j, none⟩ = some (.int .i64 (xs.getD j 0)) := by
  rw [Nat.zero_add]
  have h : (w.alloc (.cells (xs.map (Value.int .i64)).toArray t)).heap[w.heap.size]? = some (.cells (xs.map (Value.int .i64)).toArray t (0, 0)) := heap_alloc_new w _
  rw [cell_of_row _ _ j _ t (0, 0) h]
  simp [List.getD_eq_getElem?_getD, List.getElem?_eq_getElem hj]

theorem keep_only {g : Nat} {w wx : World} {a : Addr} {v : Value} (h : Only g w wx) (hne : a.block ≠ g) (hc : w.cell? a = some v) (hf : w.frozen? a = false) : wx.cell? a = some v ∧ wx.frozen? a = false ∧ a.block < wx.heap.size := by
  have hl := World.block_lt_of_cell? _ _ hc
  have hb := h.block a.block hl (fun e => hne (by injection e))
  exact ⟨(World.cell?_of_block (w := w) hb).trans hc, (World.frozen?_of_block (w := w) hb).trans hf, Nat.lt_of_lt_of_le hl h.size⟩
theorem ofR_ok {n d x y : Int} (h : ofR n d = (x, y, true)) : ratOk x y = true := by
  have hk : ∀ n d : Int, mk n d = (x, y, true) → ratOk x y = true := fun n d h => by
    unfold mk at h
    split at h
    · rename_i hk; simp only [Prod.mk.injEq, and_true] at h; obtain ⟨rfl, rfl⟩ := h; exact hk
    · simp at h
  unfold ofR mkz at h
  split at h
  · split at h
    · simp at h
    · split at h
      · exact hk _ _ h
      · exact hk _ _ h
  · simp at h
theorem i64_ok {x y : Int} (h : ratOk x y = true) : I64 x ∧ I64 y := by
  obtain ⟨_, _, _⟩ := ratOk_iff.1 h
  unfold I64
  omega

set_option maxHeartbeats 400000 in
theorem l1Int_any {g : Nat} {A : Option Addr} {cap : Nat} {bs : List UInt8} {p : Nat} {w : World} (h : Rd w g A cap bs p) (hp : p ≤ 900000) :
    Calls Try.prog 119 #[.pointer (some ⟨g, 0, none⟩)] w fun e w' => ∃ x : Int, e = .returned (.int .i64 x) ∧ I64 x ∧ Moved g A cap bs p 2 w w' := by
  have hg := h.lt
  go_enter Try.func119, Try.ntmps119
  go_wp2_with fail
  refine (pick_any 16 h (by omega) (by omega) (by omega)).mono ?_
  rintro e w1 ⟨r, rfl, hr⟩
  have hr0 := hr.lo
  have hs := hr.only.size
  by_cases h0 : r = 0
  · subst h0
    go_wp2_with fail
    refine (num_any [1000000000, -1000000000, 1000000001, 9223372036854775807, -9223372036854775808, 999999937] w1.heap.size 0 _ _ (hr.rd.alloc _) (by omega) rfl (by decide) (by decide) (by omega) (fun j hj => alloc_list w1 [1000000000, -1000000000, 1000000001, 9223372036854775807, -9223372036854775808, 999999937] 3 j hj)).mono ?_
    rintro e w2 ⟨x, rfl, hn⟩
    go_wp2
    go_ret
    refine ⟨x, rfl, ?_, ⟨⟨_, by omega, hn.rd⟩, (hr.only.below ((Below.refl _ _).alloc (Nat.le_refl _) _)).trans hn.only⟩⟩
    have := hn.mem
    simp at this
    unfold I64
    omega
  · have h1 : (r == 0) = false := by simpa using h0
    go_wp2_with fail
    refine (num_any [0, 1, 2, 3, -1, -2, 5, 7, -12, 30, 100] w1.heap.size 0 _ _ (hr.rd.alloc _) (by omega) rfl (by decide) (by decide) (by omega) (fun j hj => alloc_list w1 [0, 1, 2, 3, -1, -2, 5, 7, -12, 30, 100] 3 j hj)).mono ?_
    rintro e w2 ⟨x, rfl, hn⟩
    go_wp2
    go_ret
    refine ⟨x, rfl, ?_, ⟨⟨_, by omega, hn.rd⟩, (hr.only.below ((Below.refl _ _).alloc (Nat.le_refl _) _)).trans hn.only⟩⟩
    have := hn.mem
    simp at this
    unfold I64
    omega


theorem Only.alloc {g : Nat} {a b : World} (h : Only g a b) (o : Obj) : Only g a (b.alloc o) := h.below ((Below.refl _ _).alloc (Nat.le_refl _) o)
theorem Only.far {g : Nat} {a b : World} (h : Only g a b) {p : Addr} (_hg : g < p.block) (hp : a.heap.size ≤ p.block) (v : Value) : Only g a (b.setCell p v) :=
  ⟨h.os, h.tape, h.output, by simpa [World.setCell] using h.size, fun i hi hn => (Below.heap_setCell b p v i (by omega)).trans (h.block i hi hn)⟩

set_option maxHeartbeats 1000000 in
theorem l1Rat_any {g : Nat} {A : Option Addr} {cap : Nat} {bs : List UInt8} {p : Nat} {w : World} (h : Rd w g A cap bs p) (hp : p ≤ 800000) :
    Calls Try.prog 97 #[.pointer (some ⟨g, 0, none⟩)] w fun e w' => ∃ x y : Int, e = .returned (.agg #[.int .i64 x, .int .i64 y]) ∧ (I64 x ∧ I64 y) ∧ Moved g A cap bs p 5 w w' := by
  have hg := h.lt
  go_enter Try.func97, Try.ntmps97
  go_wp2_with fail
  refine (l1Int_any (h.alloc _) (by omega)).mono ?_
  rintro e w1 ⟨n, rfl, hIn, ⟨⟨p1, hp1, hR1⟩, hO1⟩⟩
  have hs1 := hO1.size
  simp only [World.size_alloc] at hs1
  obtain ⟨kc_, fc_, lc_⟩ := keep_only (a := ⟨w.heap.size, 0, none⟩) (v := .int .i64 0) hO1 (by show w.heap.size ≠ g; omega) (by go_simp) (by go_simp); obtain ⟨kc_, fc_, lc_⟩ := keep_only (a := ⟨w.heap.size, 1, none⟩) (v := .int .i64 0) hO1 (by show w.heap.size ≠ g; omega) (by go_simp) (by go_simp)
  have hO1' : Only g w w1 := (Only.of_below ((Below.refl _ _).alloc (Nat.le_refl _) _)).trans hO1
  go_wp2_with fail
  refine (num_any [1, 1, 2, 3, 4, 7, 999999937, 1000000000] w1.heap.size 0 _ _ (hR1.alloc _) (by omega) rfl (by decide) (by decide) (by omega) (fun j hj => alloc_list w1 [1, 1, 2, 3, 4, 7, 999999937, 1000000000] 3 j hj)).mono ?_
  rintro e w2 ⟨d, rfl, hd⟩
  have hs2 := hd.only.size
  simp only [World.size_alloc] at hs2
  obtain ⟨kc_, fc_, lc_⟩ := keep_only (a := ⟨w.heap.size, 0, none⟩) (v := .int .i64 0) hd.only (by show w.heap.size ≠ g; omega) (by go_simp) (by go_simp); obtain ⟨kc_, fc_, lc_⟩ := keep_only (a := ⟨w.heap.size, 1, none⟩) (v := .int .i64 0) hd.only (by show w.heap.size ≠ g; omega) (by go_simp) (by go_simp)
  have hO2 : Only g w w2 := (hO1'.below ((Below.refl _ _).alloc (Nat.le_refl _) _)).trans hd.only
  obtain ⟨X, Y, b, hX⟩ : ∃ X Y b, ofR n d = (X, Y, b) := ⟨_, _, _, rfl⟩
  have HX := Lib.hid hX
  clear hX
  go_wp2_with fail
  refine (sRatOf_any n d X Y b HX _).mono ?_
  rintro e w3 ⟨rfl, hb1⟩
  have hs3 := hb1.size
  obtain ⟨kc_, fc_, lc_⟩ := keep_later (a := ⟨w.heap.size, 0, none⟩) (v := .int .i64 0) hb1 (by go_simp) (by go_simp); obtain ⟨kc_, fc_, lc_⟩ := keep_later (a := ⟨w.heap.size, 1, none⟩) (v := .int .i64 0) hb1 (by go_simp) (by go_simp)
  have hR3 := hd.rd.grown hb1
  have hO3 : Only g w w3 := hO2.below hb1
  clear hb1
  cases b
  · have hIX : I64 1 := by unfold I64; omega
    have hIY : I64 1 := by unfold I64; omega
    go_wp2_with fail
    refine (pick_any 60 (w := (w3.alloc (.cells #[.int .i64 1, .int .i64 1] 82))) (hR3.alloc _) (by omega) (by omega) (by omega)).mono ?_
    rintro e w4 ⟨r, rfl, hr⟩
    have hr0 := hr.lo
    have hs4 := hr.only.size
    simp only [World.size_alloc] at hs4
    obtain ⟨kc_, fc_, lc_⟩ := keep_only (a := ⟨w.heap.size, 0, none⟩) (v := .int .i64 0) hr.only (by show w.heap.size ≠ g; omega) (by go_simp) (by go_simp); obtain ⟨kc_, fc_, lc_⟩ := keep_only (a := ⟨w.heap.size, 1, none⟩) (v := .int .i64 0) hr.only (by show w.heap.size ≠ g; omega) (by go_simp) (by go_simp); obtain ⟨kc_, fc_, lc_⟩ := keep_only (a := ⟨w3.heap.size, 0, none⟩) (v := .int .i64 1) hr.only (by show w3.heap.size ≠ g; omega) (by go_simp) (by go_simp); obtain ⟨kc_, fc_, lc_⟩ := keep_only (a := ⟨w3.heap.size, 1, none⟩) (v := .int .i64 1) hr.only (by show w3.heap.size ≠ g; omega) (by go_simp) (by go_simp)
    have hO4 : Only g w w4 := (hO3.below ((Below.refl _ _).alloc (Nat.le_refl _) _)).trans hr.only
    by_cases q0 : r = 0
    · subst q0
      go_wp2_with fail
      refine (num_any [0, -1, 1000000001] w4.heap.size 0 _ _ (hr.rd.alloc _) (by omega) rfl (by decide) (by decide) (by omega) (fun j hj => alloc_list w4 [0, -1, 1000000001] 3 j hj)).mono ?_
      rintro e w5 ⟨z, rfl, hz⟩
      have hO5 : Only g w w5 := (hO4.below ((Below.refl _ _).alloc (Nat.le_refl _) _)).trans hz.only
      have hI : I64 z := by have := hz.mem; simp at this; unfold I64; omega
      have hs5 := hz.only.size
      simp only [World.size_alloc] at hs5
      obtain ⟨kc_, fc_, lc_⟩ := keep_only (a := ⟨w.heap.size, 0, none⟩) (v := .int .i64 0) hz.only (by show w.heap.size ≠ g; omega) (by go_simp) (by go_simp); obtain ⟨kc_, fc_, lc_⟩ := keep_only (a := ⟨w.heap.size, 1, none⟩) (v := .int .i64 0) hz.only (by show w.heap.size ≠ g; omega) (by go_simp) (by go_simp); obtain ⟨kc_, fc_, lc_⟩ := keep_only (a := ⟨w3.heap.size, 0, none⟩) (v := .int .i64 1) hz.only (by show w3.heap.size ≠ g; omega) (by go_simp) (by go_simp); obtain ⟨kc_, fc_, lc_⟩ := keep_only (a := ⟨w3.heap.size, 1, none⟩) (v := .int .i64 1) hz.only (by show w3.heap.size ≠ g; omega) (by go_simp) (by go_simp)
      go_wp2
      refine bodyPost_ret (v := .agg #[.int .i64 1, .int .i64 z]) (by simp only [results, Try.results97]; go_simp) rfl ⟨1, z, rfl, ?_, ?_⟩
      · exact ⟨hIX, hI⟩
      · exact ⟨⟨p1 + 1 + 1 + 1, by omega, by (repeat (first | with_reducible exact hz.rd | refine Rd.far ?_ (by first | omega | (simp; done) | (simp; omega)) _ | refine Rd.alloc ?_ _ | refine Rd.drewN ?_ _ | refine Rd.drew ?_))⟩, by (repeat (first | exact hO5 | refine Only.far ?_ (by first | omega | (simp; done) | (simp; omega)) (by first | omega | (simp; done) | (simp; omega)) _ | refine Only.alloc ?_ _ | refine Only.drewN ?_ _))⟩
    by_cases q1 : r = 1
    · subst q1
      go_wp2_with fail
      refine (num_any [-9223372036854775808, 1000000001] w4.heap.size 0 _ _ (hr.rd.alloc _) (by omega) rfl (by decide) (by decide) (by omega) (fun j hj => alloc_list w4 [-9223372036854775808, 1000000001] 3 j hj)).mono ?_
      rintro e w5 ⟨z, rfl, hz⟩
      have hO5 : Only g w w5 := (hO4.below ((Below.refl _ _).alloc (Nat.le_refl _) _)).trans hz.only
      have hI : I64 z := by have := hz.mem; simp at this; unfold I64; omega
      have hs5 := hz.only.size
      simp only [World.size_alloc] at hs5
      obtain ⟨kc_, fc_, lc_⟩ := keep_only (a := ⟨w.heap.size, 0, none⟩) (v := .int .i64 0) hz.only (by show w.heap.size ≠ g; omega) (by go_simp) (by go_simp); obtain ⟨kc_, fc_, lc_⟩ := keep_only (a := ⟨w.heap.size, 1, none⟩) (v := .int .i64 0) hz.only (by show w.heap.size ≠ g; omega) (by go_simp) (by go_simp); obtain ⟨kc_, fc_, lc_⟩ := keep_only (a := ⟨w3.heap.size, 0, none⟩) (v := .int .i64 1) hz.only (by show w3.heap.size ≠ g; omega) (by go_simp) (by go_simp); obtain ⟨kc_, fc_, lc_⟩ := keep_only (a := ⟨w3.heap.size, 1, none⟩) (v := .int .i64 1) hz.only (by show w3.heap.size ≠ g; omega) (by go_simp) (by go_simp)
      go_wp2
      refine bodyPost_ret (v := .agg #[.int .i64 z, .int .i64 1]) (by simp only [results, Try.results97]; go_simp) rfl ⟨z, 1, rfl, ?_, ?_⟩
      · exact ⟨hI, hIY⟩
      · exact ⟨⟨p1 + 1 + 1 + 1, by omega, by (repeat (first | with_reducible exact hz.rd | refine Rd.far ?_ (by first | omega | (simp; done) | (simp; omega)) _ | refine Rd.alloc ?_ _ | refine Rd.drewN ?_ _ | refine Rd.drew ?_))⟩, by (repeat (first | exact hO5 | refine Only.far ?_ (by first | omega | (simp; done) | (simp; omega)) (by first | omega | (simp; done) | (simp; omega)) _ | refine Only.alloc ?_ _ | refine Only.drewN ?_ _))⟩
    have q0' : (r == 0) = false := by simpa using q0
    have q1' : (r == 1) = false := by simpa using q1
    by_cases q2 : r = 2
    · subst q2
      go_wp2
      refine bodyPost_ret (v := .agg #[.int .i64 2, .int .i64 4]) (by simp only [results, Try.results97]; go_simp) rfl ⟨2, 4, rfl, ?_, ?_⟩
      · exact ⟨by unfold I64; omega, by unfold I64; omega⟩
      · exact ⟨⟨p1 + 1 + 1, by omega, by (repeat (first | with_reducible exact hr.rd | refine Rd.far ?_ (by first | omega | (simp; done) | (simp; omega)) _ | refine Rd.alloc ?_ _ | refine Rd.drewN ?_ _ | refine Rd.drew ?_))⟩, by (repeat (first | exact hO4 | refine Only.far ?_ (by first | omega | (simp; done) | (simp; omega)) (by first | omega | (simp; done) | (simp; omega)) _ | refine Only.alloc ?_ _ | refine Only.drewN ?_ _))⟩
    · have q2' : (r == 2) = false := by simpa using q2
      go_wp2
      refine bodyPost_ret (v := .agg #[.int .i64 1, .int .i64 1]) (by simp only [results, Try.results97]; go_simp) rfl ⟨1, 1, rfl, ?_, ?_⟩
      · exact ⟨hIX, hIY⟩
      · exact ⟨⟨p1 + 1 + 1, by omega, by (repeat (first | with_reducible exact hr.rd | refine Rd.far ?_ (by first | omega | (simp; done) | (simp; omega)) _ | refine Rd.alloc ?_ _ | refine Rd.drewN ?_ _ | refine Rd.drew ?_))⟩, by (repeat (first | exact hO4 | refine Only.far ?_ (by first | omega | (simp; done) | (simp; omega)) (by first | omega | (simp; done) | (simp; omega)) _ | refine Only.alloc ?_ _ | refine Only.drewN ?_ _))⟩
  · have hIX : I64 X := (i64_ok (ofR_ok HX.out)).1
    have hIY : I64 Y := (i64_ok (ofR_ok HX.out)).2
    go_wp2_with fail
    refine (pick_any 60 (w := (w3.alloc (.cells #[.int .i64 X, .int .i64 Y] 82))) (hR3.alloc _) (by omega) (by omega) (by omega)).mono ?_
    rintro e w4 ⟨r, rfl, hr⟩
    have hr0 := hr.lo
    have hs4 := hr.only.size
    simp only [World.size_alloc] at hs4
    obtain ⟨kc_, fc_, lc_⟩ := keep_only (a := ⟨w.heap.size, 0, none⟩) (v := .int .i64 0) hr.only (by show w.heap.size ≠ g; omega) (by go_simp) (by go_simp); obtain ⟨kc_, fc_, lc_⟩ := keep_only (a := ⟨w.heap.size, 1, none⟩) (v := .int .i64 0) hr.only (by show w.heap.size ≠ g; omega) (by go_simp) (by go_simp); obtain ⟨kc_, fc_, lc_⟩ := keep_only (a := ⟨w3.heap.size, 0, none⟩) (v := .int .i64 X) hr.only (by show w3.heap.size ≠ g; omega) (by go_simp) (by go_simp); obtain ⟨kc_, fc_, lc_⟩ := keep_only (a := ⟨w3.heap.size, 1, none⟩) (v := .int .i64 Y) hr.only (by show w3.heap.size ≠ g; omega) (by go_simp) (by go_simp)
    have hO4 : Only g w w4 := (hO3.below ((Below.refl _ _).alloc (Nat.le_refl _) _)).trans hr.only
    by_cases q0 : r = 0
    · subst q0
      go_wp2_with fail
      refine (num_any [0, -1, 1000000001] w4.heap.size 0 _ _ (hr.rd.alloc _) (by omega) rfl (by decide) (by decide) (by omega) (fun j hj => alloc_list w4 [0, -1, 1000000001] 3 j hj)).mono ?_
      rintro e w5 ⟨z, rfl, hz⟩
      have hO5 : Only g w w5 := (hO4.below ((Below.refl _ _).alloc (Nat.le_refl _) _)).trans hz.only
      have hI : I64 z := by have := hz.mem; simp at this; unfold I64; omega
      have hs5 := hz.only.size
      simp only [World.size_alloc] at hs5
      obtain ⟨kc_, fc_, lc_⟩ := keep_only (a := ⟨w.heap.size, 0, none⟩) (v := .int .i64 0) hz.only (by show w.heap.size ≠ g; omega) (by go_simp) (by go_simp); obtain ⟨kc_, fc_, lc_⟩ := keep_only (a := ⟨w.heap.size, 1, none⟩) (v := .int .i64 0) hz.only (by show w.heap.size ≠ g; omega) (by go_simp) (by go_simp); obtain ⟨kc_, fc_, lc_⟩ := keep_only (a := ⟨w3.heap.size, 0, none⟩) (v := .int .i64 X) hz.only (by show w3.heap.size ≠ g; omega) (by go_simp) (by go_simp); obtain ⟨kc_, fc_, lc_⟩ := keep_only (a := ⟨w3.heap.size, 1, none⟩) (v := .int .i64 Y) hz.only (by show w3.heap.size ≠ g; omega) (by go_simp) (by go_simp)
      go_wp2
      refine bodyPost_ret (v := .agg #[.int .i64 X, .int .i64 z]) (by simp only [results, Try.results97]; go_simp) rfl ⟨X, z, rfl, ?_, ?_⟩
      · exact ⟨hIX, hI⟩
      · exact ⟨⟨p1 + 1 + 1 + 1, by omega, by (repeat (first | with_reducible exact hz.rd | refine Rd.far ?_ (by first | omega | (simp; done) | (simp; omega)) _ | refine Rd.alloc ?_ _ | refine Rd.drewN ?_ _ | refine Rd.drew ?_))⟩, by (repeat (first | exact hO5 | refine Only.far ?_ (by first | omega | (simp; done) | (simp; omega)) (by first | omega | (simp; done) | (simp; omega)) _ | refine Only.alloc ?_ _ | refine Only.drewN ?_ _))⟩
    by_cases q1 : r = 1
    · subst q1
      go_wp2_with fail
      refine (num_any [-9223372036854775808, 1000000001] w4.heap.size 0 _ _ (hr.rd.alloc _) (by omega) rfl (by decide) (by decide) (by omega) (fun j hj => alloc_list w4 [-9223372036854775808, 1000000001] 3 j hj)).mono ?_
      rintro e w5 ⟨z, rfl, hz⟩
      have hO5 : Only g w w5 := (hO4.below ((Below.refl _ _).alloc (Nat.le_refl _) _)).trans hz.only
      have hI : I64 z := by have := hz.mem; simp at this; unfold I64; omega
      have hs5 := hz.only.size
      simp only [World.size_alloc] at hs5
      obtain ⟨kc_, fc_, lc_⟩ := keep_only (a := ⟨w.heap.size, 0, none⟩) (v := .int .i64 0) hz.only (by show w.heap.size ≠ g; omega) (by go_simp) (by go_simp); obtain ⟨kc_, fc_, lc_⟩ := keep_only (a := ⟨w.heap.size, 1, none⟩) (v := .int .i64 0) hz.only (by show w.heap.size ≠ g; omega) (by go_simp) (by go_simp); obtain ⟨kc_, fc_, lc_⟩ := keep_only (a := ⟨w3.heap.size, 0, none⟩) (v := .int .i64 X) hz.only (by show w3.heap.size ≠ g; omega) (by go_simp) (by go_simp); obtain ⟨kc_, fc_, lc_⟩ := keep_only (a := ⟨w3.heap.size, 1, none⟩) (v := .int .i64 Y) hz.only (by show w3.heap.size ≠ g; omega) (by go_simp) (by go_simp)
      go_wp2
      refine bodyPost_ret (v := .agg #[.int .i64 z, .int .i64 Y]) (by simp only [results, Try.results97]; go_simp) rfl ⟨z, Y, rfl, ?_, ?_⟩
      · exact ⟨hI, hIY⟩
      · exact ⟨⟨p1 + 1 + 1 + 1, by omega, by (repeat (first | with_reducible exact hz.rd | refine Rd.far ?_ (by first | omega | (simp; done) | (simp; omega)) _ | refine Rd.alloc ?_ _ | refine Rd.drewN ?_ _ | refine Rd.drew ?_))⟩, by (repeat (first | exact hO5 | refine Only.far ?_ (by first | omega | (simp; done) | (simp; omega)) (by first | omega | (simp; done) | (simp; omega)) _ | refine Only.alloc ?_ _ | refine Only.drewN ?_ _))⟩
    have q0' : (r == 0) = false := by simpa using q0
    have q1' : (r == 1) = false := by simpa using q1
    by_cases q2 : r = 2
    · subst q2
      go_wp2
      refine bodyPost_ret (v := .agg #[.int .i64 2, .int .i64 4]) (by simp only [results, Try.results97]; go_simp) rfl ⟨2, 4, rfl, ?_, ?_⟩
      · exact ⟨by unfold I64; omega, by unfold I64; omega⟩
      · exact ⟨⟨p1 + 1 + 1, by omega, by (repeat (first | with_reducible exact hr.rd | refine Rd.far ?_ (by first | omega | (simp; done) | (simp; omega)) _ | refine Rd.alloc ?_ _ | refine Rd.drewN ?_ _ | refine Rd.drew ?_))⟩, by (repeat (first | exact hO4 | refine Only.far ?_ (by first | omega | (simp; done) | (simp; omega)) (by first | omega | (simp; done) | (simp; omega)) _ | refine Only.alloc ?_ _ | refine Only.drewN ?_ _))⟩
    · have q2' : (r == 2) = false := by simpa using q2
      go_wp2
      refine bodyPost_ret (v := .agg #[.int .i64 X, .int .i64 Y]) (by simp only [results, Try.results97]; go_simp) rfl ⟨X, Y, rfl, ?_, ?_⟩
      · exact ⟨hIX, hIY⟩
      · exact ⟨⟨p1 + 1 + 1, by omega, by (repeat (first | with_reducible exact hr.rd | refine Rd.far ?_ (by first | omega | (simp; done) | (simp; omega)) _ | refine Rd.alloc ?_ _ | refine Rd.drewN ?_ _ | refine Rd.drew ?_))⟩, by (repeat (first | exact hO4 | refine Only.far ?_ (by first | omega | (simp; done) | (simp; omega)) (by first | omega | (simp; done) | (simp; omega)) _ | refine Only.alloc ?_ _ | refine Only.drewN ?_ _))⟩

/-- A code that the call may read. -/
structure Code8 (w : World) (A : Option Addr) (cap : Nat) (bs : List UInt8) : Prop where
  bytes : Holds1 w w.heap.size A (bs.map fun c => Value.int .u8 (c.toNat : Int))
  cap : bs.length ≤ cap
theorem Code8.later {w w' : World} {A : Option Addr} {cap : Nat} {bs : List UInt8} (h : Code8 w A cap bs) (hb : Below w.heap.size w w') : Code8 w' A cap bs :=
  ⟨(h.bytes.below hb).more hb.size, h.cap⟩




open Go.ChangeShapes Go.WideShapes Go.ChangeAt in
theorem open_bytes {H : Type} {enc : TypeId × Value → H} {W : World} {base : Nat} {v : Value} {d : DataW H} {p : List MemPlace} (hv : Value.okWide Try.prog W .any base 22 v) (h : DataW.Trod enc Try.prog W 0 (fun _ => true) true 22 v d p) :
    ∃ A cap bs, v = .slice A (List.length bs) cap ∧ Code8 W A cap bs := by
  obtain ⟨a0, len0, cap0, rfl⟩ := okWide_slice Try.underlying22 hv
  obtain ⟨fuel, hf⟩ := h
  rcases open_ints Try.underlying22 Try.underlying5 (by kernel_rfl : Try.prog.cellsOf 5 = 1) hf with ⟨hcs, hx⟩ | ⟨a, len, cap, zs, hcs, _, hl, hm, hz, hx, hcell, hwz⟩
  · simp only [Value.cells, List.cons.injEq, Value.slice.injEq, and_true, Array.toList] at hcs
    obtain ⟨rfl, rfl, rfl⟩ := hcs
    exact ⟨none, 0, [], rfl, fun h => absurd h (by simp), by simp⟩
  · simp only [Value.cells, List.cons.injEq, Value.slice.injEq, and_true, Array.toList] at hcs
    obtain ⟨rfl, rfl, rfl⟩ := hcs
    simp only [if_true] at hz
    have hb : ∀ z ∈ zs, 0 ≤ z ∧ z ≤ 255 := fun z h => by
      have := hwz z h
      simp [Lit.wf, IntKind.min, IntKind.max, IntKind.signed, IntKind.bits] at this
      omega
    have hlen : ((zs.take len0).map fun z => UInt8.ofNat z.toNat).length = len0 := by simp; omega
    refine ⟨some a, cap0, (zs.take len0).map fun z => UInt8.ofNat z.toNat, by rw [hlen], ⟨?_, by rw [hlen]; exact hl⟩⟩
    intro hn
    have hn0 : 0 < len0 := by simp at hn; omega
    have h0 := hcell 0 (by omega)
    have hblk := World.block_lt_of_cell? _ _ h0
    obtain ⟨ab, ao, asp⟩ := a
    have hsp : asp = none := by
      cases asp with
      | none => rfl
      | some s => exfalso; simp [Addr.add, World.cell?] at h0; split at h0 <;> cases h0
    subst hsp
    refine ⟨ab, ao, rfl, by simpa [Addr.add] using hblk, fun j u hu => ?_⟩
    rw [List.getElem?_map, List.getElem?_map, List.getElem?_take] at hu
    split at hu
    · rename_i hj
      have hjz : j < zs.length := by omega
      rw [List.getElem?_eq_getElem hjz] at hu
      simp only [Option.map_some, Option.some.injEq] at hu
      have hc := hcell j hjz
      have hadd : (⟨ab, ao, none⟩ : Addr).add j = ⟨ab, ao + j, none⟩ := by unfold Addr.add; split <;> simp_all
      rw [hadd, List.getD_eq_getElem?_getD, List.getElem?_eq_getElem hjz] at hc
      rw [hc, ← hu]
      have h2 := hb zs[j] (List.getElem_mem hjz)
      simp only [Option.getD_some]
      congr 2
      rw [UInt8.toNat_ofNat']
      omega
    · simp at hu
end Go.Proofs.Ytccjbipmlpnhkaa
