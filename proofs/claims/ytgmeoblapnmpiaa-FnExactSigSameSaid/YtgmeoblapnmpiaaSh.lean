/- A vocabulary as an argument. -/
import Derived.Test.YtgmeoblapnmpiaaSg
import Derived.Deep.Strs
import Derived.ChangeMaps5
import Derived.ChangeSame
namespace Go.Proofs.Ytgmeoblapnmpiaa
set_option maxRecDepth 100000
open Go.RowKit Go.ChangeShapes Go.WideShapes Go.ChangeAt
set_option linter.unusedSimpArgs false
set_option linter.unusedVariables false


theorem open_syms_at {H : Type} {enc : TypeId × Value → H} {W : World} {m0 : Nat} {cs : List Value} {x : DataW H × List MemPlace} (hf : DataW.trod enc Try.prog W 0 (fun _ => true) true m0 45 cs = some x) :
    ∃ (A : Option Addr) (n c : Nat) (ls : List SymV), cs = [.slice A n c] ∧ Syms W A n ls := by
  rcases Go.Deep.open_slice Try.underlying45 hf with ⟨hcs, hx⟩ | ⟨a, len, cap, m, k, D, Pl, hcs, _, hl, hm, hmm, hx, hi⟩
  · exact ⟨none, 0, 0, [], hcs, rfl, fun h => absurd h (by omega), by omega⟩
  · simp only [if_true] at hmm
    have hC : Try.prog.cellsOf 108 = 3 := by kernel_rfl
    have each : ∀ i, i < m → ∃ l : SymV, (∃ A' m' c', Ints W A' m' l.2.1 ∧ W.cell? (a.add (i * 3)) = some (.string l.1) ∧ W.cell? (a.add (i * 3 + 1)) = some (.slice A' m' c') ∧ W.cell? (a.add (i * 3 + 2)) = some (.int .i64 l.2.2)) ∧ l.1.size ≤ 9223372036854775807 := fun i him => by
      obtain ⟨cs', h1, h2⟩ := hi i him
      rw [hC] at h1
      obtain ⟨_, hlen, hcell⟩ := World.cells?_some h1
      obtain ⟨y0, y1, y2, n2, _, _, t0, t1, t2⟩ := Go.Deep.trod_struct3 Try.underlying108 h2
      match cs', hlen with
      | [u0, u1, u2], _ =>
        have t0' : DataW.trod enc Try.prog W 0 (fun _ => true) true n2 9 [u0] = some y0 := t0
        have t1' : DataW.trod enc Try.prog W 0 (fun _ => true) true n2 41 [u1] = some y1 := t1
        have t2' : DataW.trod enc Try.prog W 0 (fun _ => true) true n2 3 [u2] = some y2 := t2
        obtain ⟨s, e0, _, ws⟩ := DataW.trod_string Try.underlying9 t0'
        obtain ⟨b, e2, _, w1⟩ := DataW.trod_int Try.underlying3 t2'
        obtain ⟨A', m', c', xs, e1, hI⟩ := open_ints_at t1'
        simp at e0 e2
        subst e0 e1 e2
        unfold maxLen at ws
        have g0 := hcell 0 (by omega)
        have g1 := hcell 1 (by omega)
        have g2 := hcell 2 (by omega)
        rw [Go.Deep.add_add] at g0 g1 g2
        exact ⟨(s, xs, b), ⟨A', m', c', hI, by simpa using g0, by simpa using g1, by simpa using g2⟩, ws⟩
    have hex : ∃ F : Nat → SymV, ∀ i, i < m → (∃ A' m' c', Ints W A' m' (F i).2.1 ∧ W.cell? (a.add (i * 3)) = some (.string (F i).1) ∧ W.cell? (a.add (i * 3 + 1)) = some (.slice A' m' c') ∧ W.cell? (a.add (i * 3 + 2)) = some (.int .i64 (F i).2.2)) ∧ (F i).1.size ≤ 9223372036854775807 :=
      ⟨fun i => if h : i < m then (each i h).choose else sym0, fun i him => by
        have := (each i him).choose_spec
        simpa [him] using this⟩
    obtain ⟨F, hF⟩ := hex
    have hget : ∀ j, j < len → ((List.range len).map F).getD j sym0 = F j := fun j hj => by
      rw [List.getD_eq_getElem?_getD, List.getElem?_map, List.getElem?_range hj]; rfl
    unfold maxLen at hm
    refine ⟨some a, len, cap, (List.range len).map F, hcs, by simp, fun hn0 => ?_, by omega⟩
    obtain ⟨⟨_, _, _, _, h0, _⟩, _⟩ := hF 0 (by omega)
    have hblk := World.block_lt_of_cell? _ _ h0
    obtain ⟨ab, ao, asp⟩ := a
    have hsp : asp = none := by
      cases asp with
      | none => rfl
      | some s => exfalso; simp [Addr.add, World.cell?] at h0; split at h0 <;> cases h0
    subst hsp
    have hadd : ∀ q, (⟨ab, ao, none⟩ : Addr).add q = ⟨ab, ao + q, none⟩ := fun q => by unfold Addr.add; split <;> simp_all
    refine ⟨ab, ao, rfl, by simpa [Addr.add] using hblk, fun j hj => ?_⟩
    obtain ⟨⟨A', m', c', hI, g0, g1, g2⟩, hs⟩ := hF j (by omega)
    rw [hadd] at g0 g1 g2
    rw [hget j hj]
    exact ⟨⟨A', m', c', hI, g0, g1, g2⟩, hs⟩
theorem open_sig {H : Type} {enc : TypeId × Value → H} {W : World} {base : Nat} {v : Value} {d : DataW H} {p : List MemPlace} (hv : Value.okWide Try.prog W .any base 47 v) (h : DataW.Trod enc Try.prog W 0 (fun _ => true) true 47 v d p) :
    ∃ (A : Option Addr) (n c : Nat) (ls : List SymV), v = .agg #[.slice A n c] ∧ Syms W A n ls := by
  obtain ⟨cs, rfl, hsz⟩ := okWide_struct Try.underlying47 hv
  have hC : Try.prog.cellsOf 47 = 1 := by kernel_rfl
  rw [hC] at hsz
  obtain ⟨fuel, hf⟩ := h
  obtain ⟨y0, n, hx, _, hq⟩ := trod_struct1 Try.underlying47 hf
  match cs, hsz with
  | ⟨[c0]⟩, _ =>
    have hq' : DataW.trod enc Try.prog W 0 (fun _ => true) true n 45 (List.take (Try.prog.cellsOf 45) (Value.cells (.agg #[c0])).toList) = some y0 := hq
    rw [show Try.prog.cellsOf 45 = 1 by kernel_rfl] at hq'
    obtain ⟨A, n, c, ls, e, hS⟩ := open_syms_at hq'
    refine ⟨A, n, c, ls, ?_, hS⟩
    cases c0 <;> simp [Value.cells] at e <;> simp_all
end Go.Proofs.Ytgmeoblapnmpiaa
