/- A term's text is drawn, one in two torn. -/
import Derived.Test.YtgmeoblapnmpiaaDg
import Derived.Test.YtgmeoblapnmpiaaTt
import Derived.Test.YtgmeoblapnmpiaaTi
namespace Go.Proofs.Ytgmeoblapnmpiaa
set_option maxRecDepth 100000
open Go.RowKit Go.ChangeShapes Go.WideShapes Go.ChangeAt
set_option linter.unusedSimpArgs false
set_option linter.unusedVariables false

theorem tText_len (t : TermV) : (tText t).length ≤ 567 := by
  unfold tText
  split
  · next h =>
    have := termL_len (termOk_shape h)
    omega
  · simp

set_option maxRecDepth 100000 in
set_option maxHeartbeats 4000000 in
theorem DrawTermRead_any {A : Option Addr} {cap : Nat} {bs : List UInt8} {w : World} (h : Code8 w A cap bs) (hl : bs.length ≤ 1048576) :
    Calls Try.prog 39 #[.slice A bs.length cap] w fun e w' => ∃ t : ByteArray, e = .returned (.string t) ∧ t.size ≤ 1048576 ∧ Below w.heap.size w w' := by
  go_enter Try.func39, Try.ntmps39
  go_wp2_with fail
  refine (l16Open_any (h).bytes hl (h).cap).mono ?_
  rintro e w1 ⟨bs', rfl, hR1, hb1⟩
  have hs1 := hb1.size
  have hB1 : Below w.heap.size w w1 := hb1
  clear hb1
  have hgl := hR1.lt
  obtain ⟨g, hg⟩ : ∃ g, w.heap.size = g := ⟨_, rfl⟩
  rw [hg] at hR1 hB1 hgl ⊢
  go_wp2_with fail
  refine (l4Sig_any hR1 (by omega)).mono ?_
  rintro e w2 ⟨S, n, c0, rfl, hSg, ⟨⟨p2, hp2, hR2⟩, hO2⟩⟩
  have hz2 := hO2.size
  go_wp2_with fail
  refine (l4Some_any (lo := w1.heap.size) hR2 (by omega) hSg hgl (by omega)).mono ?_
  rintro e w3 ⟨s, Z, m, c, ts, d, rfl, ⟨hK, hnar, hsz⟩, ⟨⟨p3, hp3, hR3⟩, hO3⟩⟩
  have hz3 := hO3.size
  obtain ⟨tx, htx⟩ : ∃ l, tText (.mk s ts) = l := ⟨_, rfl⟩
  have htl : tx.length ≤ 567 := by rw [← htx]; exact tText_len _
  have HTX := Lib.hid htx
  clear htx
  go_wp2_with fail
  refine (sTermText_any s HTX hK.here (by omega)).mono ?_
  rintro e w4 ⟨rfl, hb4⟩
  have hR4 := hR3.grown hb4
  have hO4 : Only g w1 w4 := (hO2.trans hO3).below hb4
  have hz4 := hb4.size
  clear hb4 hO2 hO3
  go_wp2_with fail
  refine (l2Torn_any (strB tx) (by rw [strB_size]; omega) hR4 (by omega)).mono ?_
  rintro e w5 ⟨u, rfl, hu, ⟨_, hO5⟩⟩
  have hts : (strB tx).size ≤ 567 := by rw [strB_size]; exact htl
  have hu2 : u.size ≤ 568 := Nat.le_trans hu (Nat.succ_le_succ hts)
  have hO6 : Only g w1 w5 := hO4.trans hO5
  go_wp2
  go_ret
  refine ⟨u, rfl, by omega, ?_⟩
  exact (by rw [hg]; exact hB1.trans (hO6.base (by omega) (by omega)))
end Go.Proofs.Ytgmeoblapnmpiaa
