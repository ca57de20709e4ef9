/- Rows of elimination in memory; the first rows. -/
import Derived.Test.YtccjbipmlpnhkaaWm
import Derived.Test.YtccjbipmlpnhkaaJ
namespace Go.Proofs.Ytccjbipmlpnhkaa
set_option maxRecDepth 100000
open Go.RowKit Go.ChangeShapes Go.WideShapes Go.ChangeAt
set_option linter.unusedSimpArgs false
set_option linter.unusedVariables false

/-- The four cells of a row are there. -/
structure RowCell (w : World) (b o : Nat) (r : RowV) : Prop where
  ex : ∃ A m c B p d, (Ints w A m r.1.1 ∧ Ints w B p r.2) ∧ w.cell? ⟨b, o, none⟩ = some (.slice A m c) ∧ w.cell? ⟨b, o + 1, none⟩ = some (.int .i64 r.1.2.1) ∧ w.cell? ⟨b, o + 2, none⟩ = some (.bool r.1.2.2) ∧ w.cell? ⟨b, o + 3, none⟩ = some (.slice B p d)
/-- The slice value '.slice A n c' reads as the rows. -/
structure Rws (w : World) (A : Option Addr) (n : Nat) (rs : List RowV) : Prop where
  len : rs.length = n
  cells : 0 < n → ∃ b o, A = some ⟨b, o, none⟩ ∧ b < w.heap.size ∧ ∀ j, j < n → RowCell w b (o + j * 4) (rs.getD j row0)
  few : n ≤ 9223372036854775807
theorem RowCell.later {w w' : World} {b o : Nat} {r : RowV} (h : RowCell w b o r) (hb : Below w.heap.size w w') (hl : b < w.heap.size) : RowCell w' b o r := by
  obtain ⟨A, m, c, B, p, d, ⟨hI, hJ⟩, h0, h1, h2, h3⟩ := h.ex
  have hq : ∀ x, w'.cell? ⟨b, x, none⟩ = w.cell? ⟨b, x, none⟩ := fun x => hb.cell (p := ⟨b, x, none⟩) hl
  exact ⟨A, m, c, B, p, d, ⟨hI.later hb, hJ.later hb⟩, (hq _).trans h0, (hq _).trans h1, (hq _).trans h2, (hq _).trans h3⟩
theorem Rws.later {w w' : World} {A : Option Addr} {n : Nat} {rs : List RowV} (h : Rws w A n rs) (hb : Below w.heap.size w w') : Rws w' A n rs :=
  ⟨h.len, fun hn => by
    obtain ⟨b, o, e, hl, hc⟩ := h.cells hn
    exact ⟨b, o, e, Nat.lt_of_lt_of_le hl hb.size, fun j hj => (hc j hj).later hb hl⟩, h.few⟩
/-- What the address reaches lies off block r. -/
def Off (A : Option Addr) (n : Nat) (r : Option Nat) : Prop := 0 < n → ∀ p, A = some p → some p.block ≠ r
theorem Ints.off {w w' : World} {A : Option Addr} {n : Nat} {xs : List Int} {r : Option Nat} (h : Ints w A n xs) (ho : Off A n r) (hg : w.grownBy w' r) : Ints w' A n xs :=
  ⟨h.len, fun hn => by
    obtain ⟨b, o, e, hl, hc⟩ := h.cells hn
    have hne : some b ≠ r := ho hn ⟨b, o, none⟩ e
    exact ⟨b, o, e, Nat.lt_of_lt_of_le hl hg.size, fun j hj => (hg.cell_far ⟨b, o + j, none⟩ hl hne).trans (hc j hj)⟩, h.rng, h.few⟩
theorem Off.lower {w : World} {A : Option Addr} {n : Nat} {xs : List Int} {g : Nat} (h : Ints w A n xs) (hg : w.heap.size ≤ g) : Off A n (some g) := fun hn p e e2 => by
  obtain ⟨b, o, e1, hl, _⟩ := h.cells hn
  rw [e1] at e
  obtain rfl := Option.some.inj e
  have := Option.some.inj e2
  simp at this
  omega
/-- Row j of what is being appended. -/
def RowZ (w : World) (r : Option Nat) (zs : List Value) (j : Nat) (x : RowV) : Prop :=
  ∃ A m c B p d, (Ints w A m x.1.1 ∧ Ints w B p x.2) ∧ (Off A m r ∧ Off B p r) ∧ zs[j * 4]? = some (.slice A m c) ∧ zs[j * 4 + 1]? = some (.int .i64 x.1.2.1) ∧ zs[j * 4 + 2]? = some (.bool x.1.2.2) ∧ zs[j * 4 + 3]? = some (.slice B p d)
/-- Rows that are being appended to: k so far. -/
structure RowG (w : World) (t : TypeId) (base : Nat) (v : Value) (k : Nat) (rs : List RowV) (zs : List Value) : Prop where
  own : w.ownsRow base t 4 v k zs
  len : rs.length = k
  each : ∀ j, j < k → RowZ w v.ownBlock zs j (rs.getD j row0)
theorem RowG.later {w w' : World} {t : TypeId} {base : Nat} {v : Value} {k : Nat} {rs : List RowV} {zs : List Value} (h : RowG w t base v k rs zs) (hb : Below w.heap.size w w') : RowG w' t base v k rs zs :=
  ⟨h.own.kept (row := none) ⟨hb.os, hb.tape, hb.output, hb.size, fun i hi _ => hb.block i hi⟩ (by cases hv : v.ownBlock <;> simp), h.len, fun j hj => by
    obtain ⟨A, m, c, B, p, d, ⟨hI, hJ⟩, h0⟩ := h.each j hj
    exact ⟨A, m, c, B, p, d, ⟨hI.later hb, hJ.later hb⟩, h0⟩⟩
theorem RowG.nil (w : World) (t : TypeId) (base : Nat) : RowG w t base (.slice none 0 0) 0 [] [] := ⟨⟨rfl, .inl ⟨rfl, rfl⟩⟩, rfl, fun _ h => absurd h (by omega)⟩
theorem RowG.snoc {w w' : World} {t : TypeId} {base : Nat} {v : Value} {k : Nat} {rs : List RowV} {zs : List Value} (h : RowG w t base v k rs zs) {g cap : Nat} {x : RowV} {A B : Option Addr} {m c p d : Nat}
    (ho : w'.ownsRow base t 4 (.slice (some ⟨g, 0, none⟩) (k + 1) cap) (k + 1) (zs ++ [.slice A m c, .int .i64 x.1.2.1, .bool x.1.2.2, .slice B p d])) (hg : w.grownBy w' v.ownBlock) {H : Nat} (hat : v.ownBlock = some g ∨ g = H) (hH : H = w.heap.size)
    (hI : Ints w A m x.1.1) (hJ : Ints w B p x.2) (hA : Off A m v.ownBlock) (hB : Off B p v.ownBlock) :
    RowG w' t base (.slice (some ⟨g, 0, none⟩) (k + 1) cap) (k + 1) (rs ++ [x]) (zs ++ [.slice A m c, .int .i64 x.1.2.1, .bool x.1.2.2, .slice B p d]) := by
  subst hH
  have hl := h.own.1
  have tr : ∀ {A : Option Addr} {m : Nat} {xs : List Int}, Ints w A m xs → Off A m v.ownBlock → Off A m (some g) := fun hI hA => by
    rcases hat with e | e
    · rw [← e]; exact hA
    · subst e; exact Off.lower hI (Nat.le_refl _)
  refine ⟨ho, by simp [h.len], fun j hj => ?_⟩
  show RowZ w' (some g) _ j _
  by_cases e : j = k
  · subst e
    have hx : (rs ++ [x]).getD j row0 = x := by rw [List.getD_eq_getElem?_getD, ← h.len]; simp
    rw [hx]
    refine ⟨A, m, c, B, p, d, ⟨hI.off hA hg, hJ.off hB hg⟩, ⟨tr hI hA, tr hJ hB⟩, ?_, ?_, ?_, ?_⟩
    · rw [List.getElem?_append_right (by omega), hl, Nat.sub_self]; rfl
    · rw [List.getElem?_append_right (by omega), hl, Nat.add_sub_cancel_left]; rfl
    · rw [List.getElem?_append_right (by omega), hl, Nat.add_sub_cancel_left]; rfl
    · rw [List.getElem?_append_right (by omega), hl, Nat.add_sub_cancel_left]; rfl
  · obtain ⟨A', m', c', B', p', d', ⟨hI', hJ'⟩, ⟨hA', hB'⟩, h0, h1, h2, h3⟩ := h.each j (by omega)
    have hx : (rs ++ [x]).getD j row0 = rs.getD j row0 := by rw [List.getD_eq_getElem?_getD, List.getElem?_append_left (by have := h.len; omega), ← List.getD_eq_getElem?_getD]
    rw [hx]
    refine ⟨A', m', c', B', p', d', ⟨hI'.off hA' hg, hJ'.off hB' hg⟩, ⟨tr hI' hA', tr hJ' hB'⟩, ?_, ?_, ?_, ?_⟩
    · rw [List.getElem?_append_left (by omega)]; exact h0
    · rw [List.getElem?_append_left (by omega)]; exact h1
    · rw [List.getElem?_append_left (by omega)]; exact h2
    · rw [List.getElem?_append_left (by omega)]; exact h3
theorem RowG.rws {w : World} {t : TypeId} {base : Nat} {A : Option Addr} {k n c : Nat} {rs : List RowV} {zs : List Value} (h : RowG w t base (.slice A n c) k rs zs) (hk : k ≤ 9223372036854775807) : Rws w A k rs := by
  refine ⟨h.len, fun hn => ?_, hk⟩
  obtain ⟨g, cap, e, _⟩ := h.own.form hn
  simp only [Value.slice.injEq] at e
  obtain ⟨rfl, rfl, rfl⟩ := e
  refine ⟨g, 0, rfl, (h.own.lt g rfl).2, fun j hj => ?_⟩
  obtain ⟨A', m', c', B', p', d', ⟨hI', hJ'⟩, _, h0, h1, h2, h3⟩ := h.each j hj
  rw [Nat.zero_add]
  exact ⟨A', m', c', B', p', d', ⟨hI', hJ'⟩, by rw [h.own.cellAt _ (by omega)]; exact h0, by rw [h.own.cellAt _ (by omega)]; exact h1, by rw [h.own.cellAt _ (by omega)]; exact h2, by rw [h.own.cellAt _ (by omega)]; exact h3⟩
theorem RowG.form {w : World} {t : TypeId} {base : Nat} {v : Value} {k : Nat} {rs : List RowV} {zs : List Value} (h : RowG w t base v k rs zs) : ∃ A c, v = .slice A k c := by
  rcases h.own.2 with ⟨rfl, rfl⟩ | ⟨g, cap, _, rfl, _⟩
  · exact ⟨none, 0, rfl⟩
  · exact ⟨some ⟨g, 0, none⟩, cap, rfl⟩
/-- a block of zeros -/
def zeroCells (n : Nat) : Array Value := madeCells #[.int .i64 0] (n * 1)
theorem zeroCells_size (n : Nat) : (zeroCells n).size = n := by unfold zeroCells; rw [size_madeCells]; omega
theorem zeroCells_get {n j : Nat} (h : j < n) : (zeroCells n)[j]? = some (.int .i64 0) := by
  have hs := zeroCells_size n
  rw [Array.getElem?_eq_getElem (by omega)]
  simp [zeroCells, madeCells, Nat.mod_one]
theorem makeInts {n : Nat} (hn : n ≤ 1000) (W : World) : (Instr.makeSlice 29 (.int .i64 (n : Int)) (.int .i64 (n : Int))).run Try.prog W = .ok (.slice (some ⟨W.heap.size, 0, none⟩) n n) (W.alloc (.cells (zeroCells n) 3)) := by
  obtain ⟨i0, hi, hz0, hz1, hz2⟩ := info_parts int_info
  have hr := run_make (P := Try.prog) W 29 3 i0 (.int .i64 0) Try.underlying29 hi hz0 .i64 .i64 n n (by omega) (Int.le_refl _) (by rw [hz2]; omega) (by omega)
  simp only [Int.toNat_natCast] at hr
  rw [hr, hz1]
  rfl
theorem unit_ints {W : World} {n k : Nat} (hn : n ≤ 1000) (hk : k < n) {E : Nat} (hE : W.heap.size = E) : Ints (W.alloc (.cells ((zeroCells n).setIfInBounds k (.int .i64 1)) 3)) (some ⟨E, 0, none⟩) n (unitAt n k) := by
  subst hE
  have hs := zeroCells_size n
  refine ⟨unitAt_len n k, fun _ => ⟨W.heap.size, 0, rfl, by simp [go_sem], fun j hj => ?_⟩, fun j => ?_, by omega⟩
  · rw [Nat.zero_add, unitAt_getD]
    have hz := zeroCells_get hj
    by_cases e : k = j
    · subst e
      rw [if_pos ⟨rfl, hj⟩]
      have h0 : ((zeroCells n).setIfInBounds k (.int .i64 1))[k]? = some (.int .i64 1) := Array.getElem?_setIfInBounds_self_of_lt (by omega)
      simp [go_sem, h0]
    · rw [if_neg (fun h => e h.1)]
      have h0 : ((zeroCells n).setIfInBounds k (.int .i64 1))[j]? = some (.int .i64 0) := by rw [Array.getElem?_setIfInBounds_ne e]; exact hz
      simp [go_sem, h0]
  · rw [unitAt_getD]
    split <;> (unfold J64; omega)
theorem Off.upper {w w' : World} {A : Option Addr} {n : Nat} {xs : List Int} {t : TypeId} {sz : Nat} {v : Value} {k : Nat} {zs : List Value} (h : Ints w A n xs) (hown : w'.ownsRow w.heap.size t sz v k zs) : Off A n v.ownBlock := fun hn p e e2 => by
  obtain ⟨b, o, e1, hl, _⟩ := h.cells hn
  rw [e1] at e
  obtain rfl := Option.some.inj e
  have := (hown.lt _ e2.symm).1
  dsimp only at this
  omega
theorem Off.fresh {w : World} {base : Nat} {t : TypeId} {sz : Nat} {v : Value} {k : Nat} {zs : List Value} (hown : w.ownsRow base t sz v k zs) {g o n : Nat} (hg : w.heap.size ≤ g) : Off (some ⟨g, o, none⟩) n v.ownBlock := fun hn p e e2 => by
  obtain rfl := Option.some.inj e
  have := (hown.lt _ e2.symm).2
  dsimp only at this
  omega
end Go.Proofs.Ytccjbipmlpnhkaa
