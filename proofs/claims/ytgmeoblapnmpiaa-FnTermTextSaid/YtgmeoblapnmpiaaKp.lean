/- What draws leave as it was (for seats without constraints); a text of a list is drawn. -/
import Derived.Test.YtgmeoblapnmpiaaS
import Derived.Test.YtgmeoblapnmpiaaT2
import Derived.Deep.AppendLies
namespace Go.Proofs.Ytgmeoblapnmpiaa
set_option maxRecDepth 100000
open Go.RowKit Go.ChangeShapes Go.WideShapes Go.ChangeAt
set_option linter.unusedSimpArgs false
set_option linter.unusedVariables false

/-- What stood below B is as it was, but for block g. -/
structure Kept (B g : Nat) (w w' : World) : Prop where
  os : w'.os = w.os
  tape : w'.tape = w.tape
  output : w'.output = w.output
  size : w.heap.size ≤ w'.heap.size
  block : ∀ i, i < B → i ≠ g → w'.heap[i]? = w.heap[i]?
theorem Kept.refl (B g : Nat) (w : World) : Kept B g w w := ⟨rfl, rfl, rfl, Nat.le_refl _, fun _ _ _ => rfl⟩
theorem Kept.trans {B g : Nat} {a b c : World} (h : Kept B g a b) (k : Kept B g b c) : Kept B g a c :=
  ⟨k.os.trans h.os, k.tape.trans h.tape, k.output.trans h.output, Nat.le_trans h.size k.size, fun i hi hn => (k.block i hi hn).trans (h.block i hi hn)⟩
theorem Kept.of_only {B g : Nat} {a b : World} (h : Only g a b) (hB : B ≤ a.heap.size) : Kept B g a b := ⟨h.os, h.tape, h.output, h.size, fun i hi hn => h.block i (by omega) (fun e => hn (by injection e))⟩
theorem Kept.then_only {B g : Nat} {a b c : World} (h : Kept B g a b) (k : Only g b c) (hB : B ≤ b.heap.size) : Kept B g a c := h.trans (Kept.of_only k hB)
theorem Kept.below {B B' g : Nat} {a b c : World} (h : Kept B g a b) (k : Below B' b c) (hB : B ≤ B') : Kept B g a c := h.trans ⟨k.os, k.tape, k.output, k.size, fun i hi _ => k.block i (by omega)⟩
theorem Kept.alloc {B g : Nat} {a b : World} (h : Kept B g a b) (hB : B ≤ b.heap.size) (o : Obj) : Kept B g a (b.alloc o) := h.below ((Below.refl _ _).alloc (Nat.le_refl _) o) hB
theorem Kept.drewN {B g : Nat} {a b : World} (h : Kept B g a b) (m : Nat) : Kept B g a (b.drewN m) := ⟨h.os, h.tape, h.output, h.size, h.block⟩
theorem Kept.drew {B g : Nat} {a b : World} (h : Kept B g a b) : Kept B g a b.drew := ⟨h.os, h.tape, h.output, h.size, h.block⟩
theorem Kept.set {B g : Nat} {a b : World} (h : Kept B g a b) {p : Addr} (hp : B ≤ p.block) (v : Value) : Kept B g a (b.setCell p v) :=
  ⟨h.os, h.tape, h.output, by simpa [World.setCell] using h.size, fun i hi hn => (Below.heap_setCell b p v i (by omega)).trans (h.block i hi hn)⟩
theorem Kept.grown {B g : Nat} {a b c : World} {row : Option Nat} (h : Kept B g a b) (k : b.grownBy c row) (hB : B ≤ b.heap.size) (hr : ∀ j, row = some j → B ≤ j) : Kept B g a c :=
  h.trans ⟨k.os, k.tape, k.output, k.size, fun i hi _ => k.block i (by omega) (fun e => by have := hr i e.symm; omega)⟩
theorem Kept.only {g : Nat} {a b : World} (h : Kept a.heap.size g a b) : Only g a b := ⟨h.os, h.tape, h.output, h.size, fun i hi hn => h.block i hi (fun e => hn (by rw [e]))⟩
theorem Kept.cell {B g : Nat} {a b : World} (h : Kept B g a b) {p : Addr} (hp : p.block < B) (hn : p.block ≠ g) : b.cell? p = a.cell? p := World.cell?_of_block (w := a) (h.block p.block hp hn)

theorem Kept.weak {B B' g : Nat} {a b : World} (h : Kept B g a b) (hB : B' ≤ B) : Kept B' g a b := ⟨h.os, h.tape, h.output, h.size, fun i hi hn => h.block i (by omega) hn⟩
theorem Only.out {g : Nat} {a b : World} (h : Only g a b) {p : Addr} (hp : a.heap.size ≤ p.block) (v : Value) : Only g a (b.setCell p v) :=
  ⟨h.os, h.tape, h.output, by simpa [World.setCell] using h.size, fun i hi hn => (Below.heap_setCell b p v i (by omega)).trans (h.block i hi hn)⟩
theorem Only.drew {g : Nat} {a b : World} (h : Only g a b) : Only g a b.drew := ⟨h.os, h.tape, h.output, h.size, h.block⟩
theorem Rd.aside {w w' : World} {g : Nat} {A : Option Addr} {cap : Nat} {bs : List UInt8} {p : Nat} {row : Option Nat} (h : Rd w g A cap bs p) (ho : w.grownBy w' row) (hr : ∀ j, row = some j → g < j) : Rd w' g A cap bs p := by
  have hl := h.lt
  refine ⟨(ho.block g hl (fun e => by have := hr g e.symm; omega)).trans h.block, ?_, h.few⟩
  exact h.bytes.keep fun b o hb => World.cell?_of_block (w := w) (a := ⟨b, o, none⟩) (ho.block b (by omega) (fun e => by have := hr b e.symm; omega))

/-- What 'of' gives: one of the list. -/
structure Ofed (g : Nat) (A : Option Addr) (cap : Nat) (bs : List UInt8) (p : Nat) (xs : List ByteArray) (w : World) (r : ByteArray) (w' : World) : Prop where
  mem : r ∈ xs
  rd : Rd w' g A cap bs (p + 1)
  only : Only g w w'
set_option maxHeartbeats 400000 in
theorem of_any {g : Nat} {A : Option Addr} {cap : Nat} {bs : List UInt8} {p : Nat} (xs : List ByteArray) (b m c : Nat) {w : World} (h : Rd w g A cap bs p) (hp : p ≤ 1000000) (hm : m = xs.length) (hm1 : 1 ≤ m) (hm2 : m ≤ 100)
    (hb : b ≠ g) (hx : ∀ j v, (xs.map Value.string)[j]? = some v → w.cell? ⟨b, j, none⟩ = some v) :
    Calls Try.prog 48 #[.pointer (some ⟨g, 0, none⟩), .slice (some ⟨b, 0, none⟩) m c] w fun e w' => ∃ r : ByteArray, e = .returned (.string r) ∧ Ofed g A cap bs p xs w r w' := by
  have HX := Lib.hid hx
  have HM := Lib.hid hm
  clear hx hm
  go_enter Try.func48, Try.ntmps48
  go_wp2_with fail
  refine (pick_any (m : Int) h hp (by omega) (by omega)).mono ?_
  rintro e w1 ⟨r, rfl, hr⟩
  have hr0 := hr.lo
  have hr1 := hr.hi (by omega)
  obtain ⟨k, rfl⟩ := Int.eq_ofNat_of_zero_le hr0
  have hk : k < xs.length := by have := HM.out; omega
  have hv := HX.out k (.string xs[k]) (by rw [List.getElem?_map, List.getElem?_eq_getElem hk]; rfl)
  have hc : w1.cell? ⟨b, k, none⟩ = some (.string xs[k]) := by
    rw [← hv]
    have hlt : b < w.heap.size := World.block_lt_of_cell? _ _ hv
    exact World.cell?_of_block (w := w) (a := ⟨b, k, none⟩) (hr.only.block b hlt (fun e => hb (by injection e)))
  have hmem : xs[k] ∈ xs := List.getElem_mem hk
  have HR := Lib.hid (And.intro hr hmem)
  clear hr hmem hv
  generalize xs[k] = v at *
  go_wp2
  go_ret
  exact ⟨v, rfl, HR.out.2, HR.out.1.rd, HR.out.1.only⟩
theorem alloc_vals (W : World) (vs : List Value) (t : TypeId) : ∀ j v, vs[j]? = some v → (W.alloc (.cells vs.toArray t)).cell? ⟨W.heap.size, j, none⟩ = some v := by
  intro j v hv
  have h := World.news_of_block (cs := vs.toArray) (t := t) (fr := (0, 0)) (heap_alloc_new W _) j v (by simpa using hv)
  have e : (⟨W.heap.size, 0, none⟩ : Addr).add j = ⟨W.heap.size, j, none⟩ := by unfold Addr.add; split <;> simp_all
  rw [e] at h
  exact h
end Go.Proofs.Ytgmeoblapnmpiaa
