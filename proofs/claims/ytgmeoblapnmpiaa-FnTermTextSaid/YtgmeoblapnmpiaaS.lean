/- What the draws of numbers and fractions give. -/
import Derived.Test.YtgmeoblapnmpiaaR
import Derived.Test.YtgmeoblapnmpiaaB
import Derived.ProofKit
namespace Go.Proofs.Ytgmeoblapnmpiaa
set_option maxRecDepth 100000
open Go.RowKit
set_option linter.unusedSimpArgs false
set_option linter.unusedVariables false

/-- The reader is at most k places on; nothing else has turned. -/
structure Moved (g : Nat) (A : Option Addr) (cap : Nat) (bs : List UInt8) (p k : Nat) (w w' : World) : Prop where
  ex : ∃ p', p' ≤ p + k ∧ Rd w' g A cap bs p'
  only : Only g w w'

theorem alloc_list (w : World) (xs : List Int) (t : TypeId) (j : Nat) (hj : j < xs.length) :
    (w.alloc (.cells (xs.map (Value.int .i64)).toArray t)).cell? ⟨w.heap.size, 0 + j, none⟩ = some (.int .i64 (xs.getD j 0)) := by
  rw [Nat.zero_add]
  have h : (w.alloc (.cells (xs.map (Value.int .i64)).toArray t)).heap[w.heap.size]? = some (.cells (xs.map (Value.int .i64)).toArray t (0, 0)) := heap_alloc_new w _
  rw [cell_of_row _ _ j _ t (0, 0) h]
  simp [List.getD_eq_getElem?_getD, List.getElem?_eq_getElem hj]

theorem keep_only {g : Nat} {w wx : World} {a : Addr} {v : Value} (h : Only g w wx) (hne : a.block ≠ g) (hc : w.cell? a = some v) (hf : w.frozen? a = false) : wx.cell? a = some v ∧ wx.frozen? a = false ∧ a.block < wx.heap.size := by
  have hl := World.block_lt_of_cell? _ _ hc
  have hb := h.block a.block hl (fun e => hne (by injection e))
  exact ⟨(World.cell?_of_block (w := w) hb).trans hc, (World.frozen?_of_block (w := w) hb).trans hf, Nat.lt_of_lt_of_le hl h.size⟩
theorem ofR_ok {n d x y : Int} (h : ofR n d = (x, y, true)) : ratOk x y = true := by
  have hk : ∀ n d : Int, mk n d = (x, y, true) → ratOk x y = true := fun n d h => by
    unfold mk at h
    split at h
    · rename_i hk; simp only [Prod.mk.injEq, and_true] at h; obtain ⟨rfl, rfl⟩ := h; exact hk
    · simp at h
  unfold ofR mkz at h
  split at h
  · split at h
    · simp at h
    · split at h
      · exact hk _ _ h
      · exact hk _ _ h
  · simp at h
theorem i64_ok {x y : Int} (h : ratOk x y = true) : I64 x ∧ I64 y := by
  obtain ⟨_, _, _⟩ := ratOk_iff.1 h
  unfold I64
  omega


/-- A code that the call may read. -/
structure Code8 (w : World) (A : Option Addr) (cap : Nat) (bs : List UInt8) : Prop where
  bytes : Holds1 w w.heap.size A (bs.map fun c => Value.int .u8 (c.toNat : Int))
  cap : bs.length ≤ cap
theorem Code8.later {w w' : World} {A : Option Addr} {cap : Nat} {bs : List UInt8} (h : Code8 w A cap bs) (hb : Below w.heap.size w w') : Code8 w' A cap bs :=
  ⟨(h.bytes.below hb).more hb.size, h.cap⟩




open Go.ChangeShapes Go.WideShapes Go.ChangeAt in
theorem open_bytes {H : Type} {enc : TypeId × Value → H} {W : World} {base : Nat} {v : Value} {d : DataW H} {p : List MemPlace} (hv : Value.okWide Try.prog W .any base 33 v) (h : DataW.Trod enc Try.prog W 0 (fun _ => true) true 33 v d p) :
    ∃ A cap bs, v = .slice A (List.length bs) cap ∧ Code8 W A cap bs := by
  obtain ⟨a0, len0, cap0, rfl⟩ := okWide_slice Try.underlying33 hv
  obtain ⟨fuel, hf⟩ := h
  rcases open_ints Try.underlying33 Try.underlying5 (by kernel_rfl : Try.prog.cellsOf 5 = 1) hf with ⟨hcs, hx⟩ | ⟨a, len, cap, zs, hcs, _, hl, hm, hz, hx, hcell, hwz⟩
  · simp only [Value.cells, List.cons.injEq, Value.slice.injEq, and_true, Array.toList] at hcs
    obtain ⟨rfl, rfl, rfl⟩ := hcs
    exact ⟨none, 0, [], rfl, fun h => absurd h (by simp), by simp⟩
  · simp only [Value.cells, List.cons.injEq, Value.slice.injEq, and_true, Array.toList] at hcs
    obtain ⟨rfl, rfl, rfl⟩ := hcs
    simp only [if_true] at hz
    have hb : ∀ z ∈ zs, 0 ≤ z ∧ z ≤ 255 := fun z h => by
      have := hwz z h
      simp [Lit.wf, IntKind.min, IntKind.max, IntKind.signed, IntKind.bits] at this
      omega
    have hlen : ((zs.take len0).map fun z => UInt8.ofNat z.toNat).length = len0 := by simp; omega
    refine ⟨some a, cap0, (zs.take len0).map fun z => UInt8.ofNat z.toNat, by rw [hlen], ⟨?_, by rw [hlen]; exact hl⟩⟩
    intro hn
    have hn0 : 0 < len0 := by simp at hn; omega
    have h0 := hcell 0 (by omega)
    have hblk := World.block_lt_of_cell? _ _ h0
    obtain ⟨ab, ao, asp⟩ := a
    have hsp : asp = none := by
      cases asp with
      | none => rfl
      | some s => exfalso; simp [Addr.add, World.cell?] at h0; split at h0 <;> cases h0
    subst hsp
    refine ⟨ab, ao, rfl, by simpa [Addr.add] using hblk, fun j u hu => ?_⟩
    rw [List.getElem?_map, List.getElem?_map, List.getElem?_take] at hu
    split at hu
    · rename_i hj
      have hjz : j < zs.length := by omega
      rw [List.getElem?_eq_getElem hjz] at hu
      simp only [Option.map_some, Option.some.injEq] at hu
      have hc := hcell j hjz
      have hadd : (⟨ab, ao, none⟩ : Addr).add j = ⟨ab, ao + j, none⟩ := by unfold Addr.add; split <;> simp_all
      rw [hadd, List.getD_eq_getElem?_getD, List.getElem?_eq_getElem hjz] at hc
      rw [hc, ← hu]
      have h2 := hb zs[j] (List.getElem_mem hjz)
      simp only [Option.getD_some]
      congr 2
      rw [UInt8.toNat_ofNat']
      omega
    · simp at hu
end Go.Proofs.Ytgmeoblapnmpiaa
