/- Texts of constraints are drawn. -/
import Derived.Test.YtkbohgabifpceaaDoorTo
import Derived.Test.YtkbohgabifpceaaDoorRm
import Derived.Test.YtkbohgabifpceaaDoorU
namespace Go.Proofs.YtkbohgabifpceaaDoor
set_option maxRecDepth 100000
open Go.RowKit Go.ChangeShapes Go.WideShapes Go.ChangeAt
set_option linter.unusedSimpArgs false
set_option linter.unusedVariables false

theorem linOk_bound {xs : List Int} {b : Int} (h : linOk xs b = true) : xs.length = 4 ∧ -1000000000000 ≤ b ∧ b ≤ 1000000000000 := by
  obtain ⟨hl, hb, _⟩ := linOk_len h
  have := coefOk_iff.1 hb
  exact ⟨hl, by omega, by omega⟩
theorem linTextL_len {xs : List Int} {b : Int} {s : Bool} (h : linOk xs b = true) : (linTextL xs b s).length ≤ 120 := by
  obtain ⟨h4, b0, b1⟩ := linOk_bound h
  have l1 := linWords_len (linOk_mem h)
  rw [h4] at l1
  have l2 := Lib.itoa_length_le b (by omega) (by omega)
  unfold linTextL signL
  split <;> (simp only [List.length_append, List.length_cons, List.length_nil]; omega)
/-- writing a constraint gives a short text -/
theorem sLinText_some {A : Option Addr} {n c : Nat} {xs : List Int} {b : Int} {s : Bool} {w : World} (h : Ints w A n xs) :
    Calls Tryd.prog 26 #[.agg #[.slice A n c, .int .i64 b, .bool s]] w fun e w' => ∃ t : ByteArray, e = .returned (.string t) ∧ t.size ≤ 120 ∧ Below w.heap.size w w' := by
  cases hk : linOk xs b
  · refine (sLinText_no (Lib.hid hk) h).mono ?_
    rintro e w' ⟨rfl, hb⟩
    exact ⟨_, rfl, by decide, hb⟩
  · refine (sLinText_any (Lib.hid hk) h).mono ?_
    rintro e w' ⟨rfl, hb⟩
    exact ⟨_, rfl, by rw [strB_size]; exact linTextL_len hk, hb⟩
theorem linReadL_none : linReadL [] = none := linBy_few (by decide)
set_option maxRecDepth 100000 in
set_option maxHeartbeats 2000000 in
theorem DrawLinRead_any {A : Option Addr} {cap : Nat} {bs : List UInt8} {w : World} (h : Code8 w A cap bs) (hl : bs.length ≤ 1048576) :
    Calls Tryd.prog 29 #[.slice A bs.length cap] w fun e w' => ∃ t : ByteArray, e = .returned (.string t) ∧ t.size ≤ 1048576 ∧ Below w.heap.size w w' := by
  go_enter Tryd.func29, Tryd.ntmps29
  go_wp2_with fail
  refine (l16Open_any (h).bytes hl (h).cap).mono ?_
  rintro e wa ⟨bs', rfl, hR1, hb1⟩
  have hsa := hb1.size
  have hBa : Below w.heap.size w wa := hb1
  clear hb1
  obtain ⟨g, hg⟩ : ∃ g, w.heap.size = g := ⟨_, rfl⟩
  rw [hg] at hR1 hBa ⊢
  go_wp2_with fail
  refine (l2Any_any hR1 (by omega)).mono ?_
  rintro e wb ⟨xs, b, s, q, c, rfl, hrow, hJb, ⟨⟨pb, hpb, hRb⟩, hOb⟩⟩
  have hI := hrow.ints (by omega)
  have hsb := hOb.size
  have hBb : Below g w wb := hBa.trans (hOb.base (by omega) (by omega))
  clear hOb hBa hR1
  go_wp2_with fail
  refine (sLinText_some (xs := xs) hI).mono ?_
  rintro e wc ⟨t, rfl, hs43, hb1⟩
  have hsc := hb1.size
  have hBc : Below g w wc := hBb.trans (hb1.mono (by omega))
  have hRc := hRb.grown hb1
  have hgl := hRc.lt
  clear hb1 hBb hRb
  go_wp2_with fail
  refine (l2Torn_any t (by omega) hRc (by omega)).mono ?_
  rintro e wd ⟨u, rfl, hu, ⟨_, hOd⟩⟩
  go_wp2
  go_ret
  exact ⟨u, rfl, by omega, by rw [hg]; exact hBc.trans (hOd.base (by omega) (by omega))⟩
end Go.Proofs.YtkbohgabifpceaaDoor
