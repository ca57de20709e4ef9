/- A region whose operations only read and whose calls only make memory: one walk of its text serves every order. -/
import Derived.Test.YtccjbipmlpnhkaaB
namespace Go.Proofs.Ytccjbipmlpnhkaa
set_option maxRecDepth 100000
open Go.RowKit
set_option linter.unusedSimpArgs false
set_option linter.unusedVariables false

/-- A world that is 'w' grown: all that lies in 'w' is as it was. -/
structure Grown (w : World) where
  wx : World
  ok : Below w.heap.size w wx
instance grownSome (w : World) : Nonempty (Grown w) := ⟨⟨w, Below.refl _ _⟩⟩
theorem Grown.cell {w : World} {a : Addr} {v : Value} (h : w.cell? a = some v) (s : Grown w) : s.wx.cell? a = some v := (s.ok.cell (World.block_lt_of_cell? _ _ h)).trans h
theorem grown_of {P : Program} {f : FuncId} {args : Array Value} {w : World} {s : Grown w} {v : Value}
    (h : Calls P f args s.wx fun e w' => e = .returned v ∧ Below s.wx.heap.size s.wx w') : Calls P f args s.wx fun e w'' => e = .returned v ∧ ∃ s' : Grown w, w'' = s'.wx :=
  h.mono fun _ w' ⟨he, hb⟩ => ⟨he, ⟨w', s.ok.trans (hb.mono s.ok.size)⟩, rfl⟩
theorem grown_same {P : Program} {f : FuncId} {args : Array Value} {w : World} {s : Grown w} {v : Value}
    (h : Calls P f args s.wx fun e w' => e = .returned v ∧ s.wx = w') : Calls P f args s.wx fun e w'' => e = .returned v ∧ ∃ s' : Grown w, w'' = s'.wx :=
  h.mono fun _ w' ⟨he, hb⟩ => ⟨he, s, hb.symm⟩
theorem wp_region_grown {P : Program} {id : Nat} {Q : Exit → Act → World → Prop} {a : Act} {w : World} {l : List Oper} (hm : P.follows .mixedOrders = true) (hB : Region.lexB .any l.toArray = true)
    (h : wpQuiet P l.toArray (fun w' => ∃ s : Grown w, w' = s.wx) (fun a' => ∀ w', (∃ s : Grown w, w' = s.wx) → Q .normal a' w') l a) : (Code.region id l.toArray true).wp P Q a w :=
  wp_region_quiet (C := fun w' => ∃ s : Grown w, w' = s.wx) hm hB ⟨⟨w.drew, below_drewN (Below.refl _ _) 1⟩, rfl⟩ (by simpa using h)
theorem quiet_with {P : Program} {ops : Array Oper} {Q : Act → Prop} {l : List Oper} {A : Act} {w : World} {a : Addr} {v : Value} (h : w.cell? a = some v)
    (k : (∀ s : Grown w, s.wx.cell? a = some v) → wpQuiet P ops (fun w' => ∃ s : Grown w, w' = s.wx) Q l A) : wpQuiet P ops (fun w' => ∃ s : Grown w, w' = s.wx) Q l A := k (Grown.cell h)
end Go.Proofs.Ytccjbipmlpnhkaa
