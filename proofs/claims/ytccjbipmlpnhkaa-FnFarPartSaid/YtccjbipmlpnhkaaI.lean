/- Marks: what a list holds that has been marked, and whether it holds it still. -/
import Derived.Test.YtccjbipmlpnhkaaE
namespace Go.Proofs.Ytccjbipmlpnhkaa
set_option maxRecDepth 100000
open Go.RowKit Go.ChangeShapes Go.WideShapes Go.ChangeAt
set_option linter.unusedSimpArgs false
set_option linter.unusedVariables false

/-- all marked -/
def marks (n : Nat) (a : Int) : List Int := (List.range n).map (fun j : Nat => a + (j : Int))
theorem marks_len (n : Nat) (a : Int) : (marks n a).length = n := by simp [marks]
theorem marks_getD {n : Nat} {a : Int} {j : Nat} (h : j < n) : (marks n a).getD j 0 = a + j := by
  unfold marks; rw [List.getD_eq_getElem?_getD]; simp [h]
theorem marks_rng {n : Nat} {a : Int} (h1 : -1000000000 ≤ a) (h2 : a ≤ 1000000000) (hn : n ≤ 100000000) (j : Nat) : J64 ((marks n a).getD j 0) := by
  rcases Nat.lt_or_ge j n with h | h
  · rw [marks_getD h]; unfold J64; omega
  · rw [List.getD_eq_getElem?_getD, List.getElem?_eq_none (by rw [marks_len]; exact h)]; simp [J64]

/-- The list's own row: block g, from its beginning, may be written. -/
structure Row (w : World) (g n : Nat) : Prop where
  cell : ∀ j, j < n → ∃ v, w.cell? ⟨g, j, none⟩ = some v
  free : ∀ j, w.frozen? ⟨g, j, none⟩ = false
theorem Row.set {w : World} {g n : Nat} (h : Row w g n) (p : Addr) (v : Value) : Row (w.setCell p v) g n :=
  ⟨fun j hj => by
    obtain ⟨u, hu⟩ := h.cell j hj
    by_cases e : p = ⟨g, j, none⟩
    · subst e; exact ⟨v, World.cell?_setCell_same _ _ _ hu⟩
    · exact ⟨u, by rw [World.cell?_setCell_other _ _ _ _ e]; exact hu⟩, fun j => by rw [World.frozen?_setCell]; exact h.free j⟩
theorem Row.of {w : World} {g n : Nat} {xs : List Int} (h : Ints w (some ⟨g, 0, none⟩) n xs) (hf : Free w g) : Row w g n :=
  ⟨fun j hj => by
    obtain ⟨b, o, e, _, hc⟩ := h.cells (by omega)
    injection e with e; injection e with e1 e2
    subst e1 e2
    exact ⟨_, by rw [← hc j hj, Nat.zero_add]⟩, hf.free⟩
/-- Only block g of what was there may have turned. -/
theorem far_cell {g : Nat} {w w' : World} (h : w.grownBy w' (some g)) {a : Addr} (ha : a.block < w.heap.size) (hne : a.block ≠ g) : w'.cell? a = w.cell? a :=
  World.cell?_of_block (w := w) (h.block a.block ha (fun e => hne (by injection e)))
theorem keep_aside {w w' : World} {g : Nat} {a : Addr} {v : Value} (hg : w.grownBy w' (some g)) (h : w.cell? a = some v) (hne : a.block ≠ g) : w'.cell? a = some v := hg.cell h (fun e => hne (by injection e))

theorem markIntS_none {A : Option Addr} {c : Nat} (a : Int) (w : World) :
    Calls Try.prog 38 #[.slice A 0 c, .int .i64 a] w fun e w' => e = .returned (.int .i64 a) ∧ w = w' := by
  go_enter Try.func38, Try.ntmps38
  go_wp2
  refine wp_loop_rounds 1 ?_
  rw [rounds_succ]
  go_wp2
  go_ret
  exact ⟨rfl, rfl⟩
set_option maxHeartbeats 1000000 in
theorem markIntS_any {g n c : Nat} (a : Int) {w : World} (hr : Row w g n) (hg : g < w.heap.size) (ha : 0 ≤ a) (ha' : a ≤ 100000000) (hn : n ≤ 10000000) :
    Calls Try.prog 38 #[.slice (some ⟨g, 0, none⟩) n c, .int .i64 a] w fun e w' => e = .returned (.int .i64 (a + n)) ∧ Ints w' (some ⟨g, 0, none⟩) n (marks n a) ∧ Row w' g n ∧ w.grownBy w' (some g) := by
  go_enter Try.func38, Try.ntmps38
  go_wp2
  go_loopw [1, 5] (fun x i wr => ∃ k : Nat, k ≤ n ∧ i = .int .i64 k ∧ x = .int .i64 (a + k) ∧ Row wr g n ∧ w.grownBy wr (some g) ∧ (∀ j, j < k → Hid (wr.cell? ⟨g, j, none⟩ = some (.int .i64 (a + j))))) (fun _ i _ => n - (intOf i).toNat)
  case atStart => exact ⟨0, by omega, rfl, by simp, hr, World.grownBy.refl w _, fun j hj => absurd hj (by omega)⟩
  case round =>
    obtain ⟨k, hk, rfl, rfl, hrow, hgr, hdone⟩ := hrel
    by_cases hlt : k < n
    · obtain ⟨v, hv⟩ := hrow.cell k hlt
      have hf := hrow.free k
      have HS := Lib.hid (And.intro (hrow.set ⟨g, k, none⟩ (.int .i64 (a + k))) hdone)
      clear hdone hrow
      go_wp2
      go_roundw
      case rel =>
        refine ⟨k + 1, by omega, by go_num, (by congr 1; omega), HS.out.1, ?_, ?_⟩
        · exact hgr.trans ⟨rfl, rfl, rfl, by simp [World.setCell], fun i _ hi => Below.heap_setCell _ _ _ _ (fun e => hi (by rw [e]))⟩
        · intro j hj
          by_cases e : j = k
          · subst e; exact Lib.hid (World.cell?_setCell_same _ _ _ hv)
          · exact Lib.hid (by rw [World.cell?_setCell_other _ _ _ _ (by first | (simp; done) | (simp; omega))]; exact (HS.out.2 j (by omega)).out)
      case measure => simp [intOf]; omega
    · obtain rfl : k = n := by omega
      go_wp2
      go_ret
      exact ⟨rfl, ⟨marks_len _ _, fun _ => ⟨g, 0, rfl, Nat.lt_of_lt_of_le hg hgr.size, fun j hj => by rw [Nat.zero_add, marks_getD hj]; exact (hdone j hj).out⟩, marks_rng (by omega) (by omega) (by omega), by omega⟩, hrow, hgr⟩

theorem heldIntS_any {A : Option Addr} {n c : Nat} (a : Int) {w : World} (h : Ints w A n (marks n a)) (ha : 0 ≤ a) (ha' : a ≤ 100000000) (hn : n ≤ 10000000) :
    Calls Try.prog 40 #[.slice A n c, .int .i64 a] w fun e w' => e = .returned (.int .i64 (a + n)) ∧ w = w' := by
  go_enter Try.func40, Try.ntmps40
  go_wp2
  go_loop [1, 5] (fun x i => ∃ k : Nat, k ≤ n ∧ i = .int .i64 k ∧ x = .int .i64 (a + k)) (fun _ i => n - (intOf i).toNat)
  case atStart => exact ⟨0, by omega, rfl, by simp⟩
  case round =>
    obtain ⟨k, hk, rfl, rfl⟩ := hrel
    by_cases hlt : k < n
    · obtain ⟨p, o, rfl, hp, hc⟩ := h.cells (by omega)
      have hck := hc k hlt
      rw [marks_getD hlt] at hck
      clear hc
      go_wp2
      go_round
      case rel => exact ⟨k + 1, by omega, by go_num, by first | (congr 1; done) | (congr 1; omega)⟩
      case measure => simp [intOf]; omega
    · obtain rfl : k = n := by omega
      go_wp2
      go_ret
      exact ⟨rfl, rfl⟩
theorem with_new3 {G : Prop} {wp wx : World} {v0 v1 v2 : Value} {t : TypeId} (hb : Below (wp.alloc (.cells #[v0, v1, v2] t)).heap.size (wp.alloc (.cells #[v0, v1, v2] t)) wx)
    (k : L3 wx wp.heap.size v0 v1 v2 → wp.heap.size < wx.heap.size → G) : G := by
  have hc : ∀ o v, (wp.alloc (.cells #[v0, v1, v2] t)).cell? ⟨wp.heap.size, o, none⟩ = some v → wx.cell? ⟨wp.heap.size, o, none⟩ = some v := fun o v h => (hb.cell (p := ⟨wp.heap.size, o, none⟩) (World.block_lt_of_cell? _ _ h)).trans h
  have hf : ∀ o, wx.frozen? ⟨wp.heap.size, o, none⟩ = false := fun o => (hb.frozen (p := ⟨wp.heap.size, o, none⟩) (by simp)).trans (by simp [go_sem])
  exact k ⟨hc 0 v0 (by simp [go_sem]), hc 1 v1 (by simp [go_sem]), hc 2 v2 (by simp [go_sem]), hf 0, hf 1, hf 2⟩ (Nat.lt_of_lt_of_le (by simp) hb.size)
theorem with_newd3 {G : Prop} {wp wx : World} {v0 v1 v2 : Value} {t : TypeId} (hb : Below (wp.alloc (.cells #[v0, v1, v2] t)).drew.heap.size (wp.alloc (.cells #[v0, v1, v2] t)).drew wx)
    (k : L3 wx wp.heap.size v0 v1 v2 → wp.heap.size < wx.heap.size → G) : G := with_new3 (wp := wp) ⟨hb.os, hb.tape, hb.output, hb.size, hb.block⟩ k
theorem L3.later {w w' : World} {g : Nat} {v0 v1 v2 : Value} (h : L3 w g v0 v1 v2) (hb : Below w.heap.size w w') : L3 w' g v0 v1 v2 := by
  have hl := World.block_lt_of_cell? _ _ h.c0
  exact ⟨(hb.cell (p := ⟨g, 0, none⟩) hl).trans h.c0, (hb.cell (p := ⟨g, 1, none⟩) hl).trans h.c1, (hb.cell (p := ⟨g, 2, none⟩) hl).trans h.c2, (hb.frozen (p := ⟨g, 0, none⟩) hl).trans h.f0, (hb.frozen (p := ⟨g, 1, none⟩) hl).trans h.f1, (hb.frozen (p := ⟨g, 2, none⟩) hl).trans h.f2⟩
theorem with_keep3 {G : Prop} {w wx : World} {g : Nat} {v0 v1 v2 : Value} (hb : Below w.heap.size w wx) (h : L3 w g v0 v1 v2) (k : L3 wx g v0 v1 v2 → g < wx.heap.size → G) : G :=
  k (h.later hb) (Nat.lt_of_lt_of_le (World.block_lt_of_cell? _ _ h.c0) hb.size)
theorem L3.drew {w : World} {g : Nat} {v0 v1 v2 : Value} (h : L3 w g v0 v1 v2) : L3 w.drew g v0 v1 v2 := ⟨h.c0, h.c1, h.c2, h.f0, h.f1, h.f2⟩
theorem Ints.nil (w : World) : Ints w none 0 [] := ⟨rfl, fun h => absurd h (by omega), fun j => by simp [J64], by omega⟩
end Go.Proofs.Ytccjbipmlpnhkaa
