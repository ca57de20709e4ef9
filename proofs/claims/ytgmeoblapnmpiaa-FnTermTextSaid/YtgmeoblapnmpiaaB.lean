/- Contracts of the functions on fractions. -/
import Derived.Test.YtgmeoblapnmpiaaA
import Derived.RegionTactic
import Derived.ChangeAlike
import Derived.Deep.DeepCutAuto
namespace Go.Proofs.Ytgmeoblapnmpiaa
set_option maxRecDepth 100000
open Go.RowKit
set_option linter.unusedSimpArgs false
set_option linter.unusedVariables false

theorem keep_later {w wx : World} {a : Addr} {v : Value} (hb : Below w.heap.size w wx) (h : w.cell? a = some v) (hf : w.frozen? a = false) : wx.cell? a = some v ∧ wx.frozen? a = false ∧ a.block < wx.heap.size :=
  ⟨(hb.cell (World.block_lt_of_cell? _ _ h)).trans h, (hb.frozen (World.block_lt_of_cell? _ _ h)).trans hf, Nat.lt_of_lt_of_le (World.block_lt_of_cell? _ _ h) hb.size⟩
theorem with_keep {G : Prop} {w wx : World} {a : Addr} {v : Value} (hb : Below w.heap.size w wx) (h : w.cell? a = some v) (hf : w.frozen? a = false) (k : wx.cell? a = some v → wx.frozen? a = false → a.block < wx.heap.size → G) : G :=
  k (keep_later hb h hf).1 (keep_later hb h hf).2.1 (keep_later hb h hf).2.2
theorem with_new {G : Prop} {wp wx : World} {v0 v1 : Value} {t : TypeId} (hb : Below (wp.alloc (.cells #[v0, v1] t)).heap.size (wp.alloc (.cells #[v0, v1] t)) wx)
    (k : wx.cell? ⟨wp.heap.size, 0, none⟩ = some v0 → wx.frozen? ⟨wp.heap.size, 0, none⟩ = false → wx.cell? ⟨wp.heap.size, 1, none⟩ = some v1 → wx.frozen? ⟨wp.heap.size, 1, none⟩ = false → wp.heap.size < wx.heap.size → G) : G := by
  have h0 := keep_later (a := ⟨wp.heap.size, 0, none⟩) (v := v0) hb (by simp [go_sem]) (by simp [go_sem])
  have h1 := keep_later (a := ⟨wp.heap.size, 1, none⟩) (v := v1) hb (by simp [go_sem]) (by simp [go_sem])
  exact k h0.1 h0.2.1 h1.1 h1.2.1 h0.2.2
theorem with_newd {G : Prop} {wp wx : World} {v0 v1 : Value} {t : TypeId} (hb : Below (wp.alloc (.cells #[v0, v1] t)).drew.heap.size (wp.alloc (.cells #[v0, v1] t)).drew wx)
    (k : wx.cell? ⟨wp.heap.size, 0, none⟩ = some v0 → wx.frozen? ⟨wp.heap.size, 0, none⟩ = false → wx.cell? ⟨wp.heap.size, 1, none⟩ = some v1 → wx.frozen? ⟨wp.heap.size, 1, none⟩ = false → wp.heap.size < wx.heap.size → G) : G :=
  with_new (wp := wp) ⟨hb.os, hb.tape, hb.output, hb.size, hb.block⟩ k
/-- Block g holds the fraction x / y, and may be written. -/
structure Lv (w : World) (g : Nat) (x y : Int) : Prop where
  c0 : w.cell? ⟨g, 0, none⟩ = some (.int .i64 x)
  c1 : w.cell? ⟨g, 1, none⟩ = some (.int .i64 y)
  f0 : w.frozen? ⟨g, 0, none⟩ = false
  f1 : w.frozen? ⟨g, 1, none⟩ = false
  lt : g < w.heap.size
theorem tdiv_bd (n : Int) (g : Nat) (K : Int) (h : -K ≤ n) (h' : n ≤ K) : -K ≤ n.tdiv g ∧ n.tdiv g ≤ K := by
  have h1 := Int.natAbs_tdiv_le_natAbs n g
  omega
theorem mk_ok {n d X Y : Int} (hX : n.tdiv (Int.gcd n d) = X) (hY : d.tdiv (Int.gcd n d) = Y) (h : ratOk X Y = true) : mk n d = (X, Y, true) := by
  unfold mk; rw [hX, hY, if_pos h]
theorem mk_no {n d X Y : Int} (hX : n.tdiv (Int.gcd n d) = X) (hY : d.tdiv (Int.gcd n d) = Y) (h : ratOk X Y = false) : mk n d = (0, 0, false) := by
  unfold mk; rw [hX, hY, if_neg (by rw [h]; simp)]


theorem no3 {x y : Int} {b : Bool} (h : ((0 : Int), (0 : Int), false) = (x, y, b)) : x = 0 ∧ y = 0 ∧ b = false := by
  simp only [Prod.mk.injEq] at h; obtain ⟨rfl, rfl, rfl⟩ := h; exact ⟨rfl, rfl, rfl⟩
theorem yes3 {X Y x y : Int} {b : Bool} (h : (X, Y, true) = (x, y, b)) : x = X ∧ y = Y ∧ b = true := by
  simp only [Prod.mk.injEq] at h; obtain ⟨rfl, rfl, rfl⟩ := h; exact ⟨rfl, rfl, rfl⟩



theorem mkz_pos {n d : Int} (h : 0 < d) : mkz n d = mk n d := by unfold mkz; rw [if_neg (by omega), if_neg (by omega)]

end Go.Proofs.Ytgmeoblapnmpiaa
