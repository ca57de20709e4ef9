/- 'laws.FnExactFarRun': for every input the call returns true and leaves its arguments as they were. No condition. -/
import Derived.Test.YtccjbipmlpnhkaaFr
import Derived.Test.YtccjbipmlpnhkaaWn
import Derived.Test.YtccjbipmlpnhkaaWo
import Derived.Test.YtccjbipmlpnhkaaL
namespace Go.Proofs.Ytccjbipmlpnhkaa
set_option maxRecDepth 100000
open Go.ChangeShapes Go.WideShapes Go.ChangeAt Go.RowKit
set_option linter.unusedSimpArgs false
set_option linter.unusedVariables false

def Kind (ls : List LinV) (vs : List (Int × Int)) (ts : List Int) (code : Int) : Prop := (farRun ls).vals = vs ∧ (farRun ls).times = ts ∧ (farRun ls).code = code
theorem times_few (ls : List LinV) : (farRun ls).times.length ≤ 20 := by
  cases hs : sysOk ls
  · rw [run_inv hs]; simp [FarRes.times]
  cases hc : chain ls 4 with
  | none => rw [run_chain hs hc]; simp [FarRes.times]
  | some rs =>
    cases hb : badAt rs with
    | some ts =>
      rw [run_bad hs hc hb]
      split
      · show ts.length ≤ 20
        obtain ⟨h1, _⟩ := bad_len hs hc hb
        have := sysOk_few hs
        omega
      · simp [FarRes.times]
    | none =>
      cases hk : backTo ls 4 with
      | none => rw [run_back hs hc hb hk]; simp [FarRes.times]
      | some vs =>
        rw [run_all hs hc hb hk]
        split <;> simp [FarRes.times]
theorem sRunK {ls : List LinV} {vs : List (Int × Int)} {ts : List Int} {code : Int} (hk : Kind ls vs ts code) {A : Option Addr} {n c : Nat} {w : World} (h : Lins w A n ls) :
    Calls Try.prog 19 #[.slice A n c] w fun e w' => ∃ A1 c1 B1 d1, e = .returned (.tuple #[.slice A1 vs.length c1, .slice B1 ts.length d1, .int .i64 code]) ∧ (Rats w' A1 vs.length vs ∧ Ints w' B1 ts.length ts) ∧ (Mine w.heap.size w' A1 vs.length ∧ Mine w.heap.size w' B1 ts.length) ∧ (vs.length = 0 ∨ ts.length = 0) ∧ vs.length ≤ 4 ∧ Below w.heap.size w w' := by
  obtain ⟨rfl, rfl, rfl⟩ := hk
  refine (sFarRun_any (c := c) h).mono fun e w' hb => ?_
  obtain ⟨A1, n1, c1, B1, m1, d1, he, ⟨hV, hI⟩, hM, h0, h4, hb⟩ := run_all_kinds hb
  obtain rfl := hV.len
  obtain rfl := hI.len
  exact ⟨A1, c1, B1, d1, he, ⟨hV, hI⟩, hM, h0, h4, hb⟩
theorem iRunK {ls : List LinV} {vs : List (Int × Int)} {ts : List Int} {code : Int} (hk : Kind ls vs ts code) {A : Option Addr} {n c : Nat} {w : World} (h : Lins w A n ls) :
    Calls Try.prog 15 #[.slice A n c] w fun e w' => ∃ A1 c1 B1 d1, e = .returned (.tuple #[.slice A1 vs.length c1, .slice B1 ts.length d1, .int .i64 code]) ∧ (Rats w' A1 vs.length vs ∧ Ints w' B1 ts.length ts) ∧ (Mine w.heap.size w' A1 vs.length ∧ Mine w.heap.size w' B1 ts.length) ∧ (vs.length = 0 ∨ ts.length = 0) ∧ vs.length ≤ 4 ∧ Below w.heap.size w w' := by
  obtain ⟨rfl, rfl, rfl⟩ := hk
  refine (iFarRun_any (c := c) h).mono fun e w' hb => ?_
  obtain ⟨A1, n1, c1, B1, m1, d1, he, ⟨hV, hI⟩, hM, h0, h4, hb⟩ := run_all_kinds hb
  obtain rfl := hV.len
  obtain rfl := hI.len
  exact ⟨A1, c1, B1, d1, he, ⟨hV, hI⟩, hM, h0, h4, hb⟩
set_option maxRecDepth 100000 in
set_option maxHeartbeats 16000000 in
theorem fnExactFarRun_walk {A : Option Addr} {n c : Nat} {ls : List LinV} {w : World} (hA : Lins w A n ls) :
    Calls Try.prog 10 #[.slice A n c] w fun e w' => e = .returned (.bool true) ∧ Below w.heap.size w w' := by
  go_enter Try.func10, Try.ntmps10
  go_wp2_with fail
  refine (szLinS_any 1048576 hA (by omega) (by omega)).mono ?_
  rintro e w1 ⟨r1, rfl, hr1, hb1⟩
  have hz1 := hb1.size
  have hB1 : Below w.heap.size w w1 := hb1
  clear hb1
  rcases hr1 with rfl | ⟨hr0, hrE⟩
  · go_wp2
    go_ret
    exact ⟨rfl, by (repeat (first | with_reducible exact Below.refl _ _ | with_reducible assumption | (with_reducible refine below_drewN ?_ _) | (with_reducible refine Below.drew ?_) | (with_reducible refine Below.setCell ?_ (by first | omega | (simp; done) | (simp; omega)) _) | (with_reducible refine Below.alloc ?_ (by first | omega | (simp; done) | (simp; omega)) _) | refine Below.trans ?_ (Below.mono (by with_reducible assumption) (by first | omega | (simp; done) | (simp; omega)))))⟩
  have hn : n ≤ 1048576 := by omega
  have hm : lsum ls n ≤ 1048576 := by omega
  obtain ⟨Q, hQ⟩ : ∃ Q : Int, (1 : Int) + lsum ls n + 2 * n = Q := ⟨_, rfl⟩
  have hQ0 : 0 ≤ Q := by omega
  have HQ := Lib.hid hQ
  clear hrE hQ
  obtain ⟨vs, ts, code, hk⟩ : ∃ vs ts code, Kind ls vs ts code := ⟨_, _, _, rfl, rfl, rfl⟩
  have HK := Lib.hid hk
  clear hk
  have hcc : (code != code) = false := by simp
  go_wp2_with fail
  refine (toLinS_any (ls := ls) (hA.later (by (repeat (first | with_reducible exact Below.refl _ _ | with_reducible assumption | (with_reducible refine below_drewN ?_ _) | (with_reducible refine Below.drew ?_) | (with_reducible refine Below.setCell ?_ (by first | omega | (simp; done) | (simp; omega)) _) | (with_reducible refine Below.alloc ?_ (by first | omega | (simp; done) | (simp; omega)) _) | refine Below.trans ?_ (Below.mono (by with_reducible assumption) (by first | omega | (simp; done) | (simp; omega))))))) hn hm).mono ?_
  rintro e w2 ⟨rfl, hL1, hb1⟩
  have hz1 := hb1.size; (try simp at hz1); have hB1 : Below w.heap.size w w2 := (by refine Below.trans ?_ (Below.mono hb1 (by first | omega | (simp; done) | (simp; omega))); (repeat (first | with_reducible exact Below.refl _ _ | with_reducible assumption | (with_reducible refine below_drewN ?_ _) | (with_reducible refine Below.drew ?_) | (with_reducible refine Below.setCell ?_ (by first | omega | (simp; done) | (simp; omega)) _) | (with_reducible refine Below.alloc ?_ (by first | omega | (simp; done) | (simp; omega)) _) | refine Below.trans ?_ (Below.mono (by with_reducible assumption) (by first | omega | (simp; done) | (simp; omega))))))
  clear hb1
  go_wp2_with fail
  refine (sRunK HK.out hL1).mono ?_
  rintro e w3 ⟨A3, c3, B3, d3, rfl, ⟨hV3, hI3⟩, _, hnm, hn4, hb1⟩
  have hz1 := hb1.size; (try simp at hz1); have hB1 : Below w.heap.size w w3 := (by refine Below.trans ?_ (Below.mono hb1 (by first | omega | (simp; done) | (simp; omega))); (repeat (first | with_reducible exact Below.refl _ _ | with_reducible assumption | (with_reducible refine below_drewN ?_ _) | (with_reducible refine Below.drew ?_) | (with_reducible refine Below.setCell ?_ (by first | omega | (simp; done) | (simp; omega)) _) | (with_reducible refine Below.alloc ?_ (by first | omega | (simp; done) | (simp; omega)) _) | refine Below.trans ?_ (Below.mono (by with_reducible assumption) (by first | omega | (simp; done) | (simp; omega))))))
  clear hb1 hL1
  have hNM := Lib.hid hnm
  have hLV := Lib.hid hV3.len
  clear hnm
  go_wp2_with fail
  refine (toLinS_free (ls := ls) (hA.later (by (repeat (first | with_reducible exact Below.refl _ _ | with_reducible assumption | (with_reducible refine below_drewN ?_ _) | (with_reducible refine Below.drew ?_) | (with_reducible refine Below.setCell ?_ (by first | omega | (simp; done) | (simp; omega)) _) | (with_reducible refine Below.alloc ?_ (by first | omega | (simp; done) | (simp; omega)) _) | refine Below.trans ?_ (Below.mono (by with_reducible assumption) (by first | omega | (simp; done) | (simp; omega))))))) hn hm).mono ?_
  rintro e w4 ⟨rfl, ⟨hL2, hMk⟩, hb1⟩
  have hCw4 : Below w3.heap.size w3 w4 := hb1
  have hz1 := hb1.size; (try simp at hz1); have hB1 : Below w.heap.size w w4 := (by refine Below.trans ?_ (Below.mono hb1 (by first | omega | (simp; done) | (simp; omega))); (repeat (first | with_reducible exact Below.refl _ _ | with_reducible assumption | (with_reducible refine below_drewN ?_ _) | (with_reducible refine Below.drew ?_) | (with_reducible refine Below.setCell ?_ (by first | omega | (simp; done) | (simp; omega)) _) | (with_reducible refine Below.alloc ?_ (by first | omega | (simp; done) | (simp; omega)) _) | refine Below.trans ?_ (Below.mono (by with_reducible assumption) (by first | omega | (simp; done) | (simp; omega))))))
  clear hb1
  go_wp2_with fail
  refine (iRunK HK.out hL2).mono ?_
  rintro e w5 ⟨A5, c5, B5, d5, rfl, ⟨hV5, hI5⟩, ⟨hM5, hN5⟩, _, _, hb1⟩
  have hCw5 : Below w3.heap.size w3 w5 := by (repeat (first | with_reducible exact Below.refl _ _ | with_reducible assumption | (with_reducible refine below_drewN ?_ _) | (with_reducible refine Below.drew ?_) | (with_reducible refine Below.setCell ?_ (by first | omega | (simp; done) | (simp; omega)) _) | (with_reducible refine Below.alloc ?_ (by first | omega | (simp; done) | (simp; omega)) _) | refine Below.trans ?_ (Below.mono (by with_reducible assumption) (by first | omega | (simp; done) | (simp; omega)))))
  have hz1 := hb1.size; (try simp at hz1); have hB1 : Below w.heap.size w w5 := (by refine Below.trans ?_ (Below.mono hb1 (by first | omega | (simp; done) | (simp; omega))); (repeat (first | with_reducible exact Below.refl _ _ | with_reducible assumption | (with_reducible refine below_drewN ?_ _) | (with_reducible refine Below.drew ?_) | (with_reducible refine Below.setCell ?_ (by first | omega | (simp; done) | (simp; omega)) _) | (with_reducible refine Below.alloc ?_ (by first | omega | (simp; done) | (simp; omega)) _) | refine Below.trans ?_ (Below.mono (by with_reducible assumption) (by first | omega | (simp; done) | (simp; omega))))))
  have hL5 := hL2.later hb1
  have hMk5 := hMk.later hb1
  clear hb1 hL2 hMk
  generalize hgn : vs.length = nv at *
  generalize hgm : ts.length = mt at *
  go_wp2_with fail
  refine (eqRatS_same (vs := vs) hV5 (hV3.later hCw5)).mono ?_
  rintro e w6 ⟨rfl, hb1⟩
  have hDw6 : Below w5.heap.size w5 w6 := hb1
  have hCw6 : Below w3.heap.size w3 w6 := by (repeat (first | with_reducible exact Below.refl _ _ | with_reducible assumption | (with_reducible refine below_drewN ?_ _) | (with_reducible refine Below.drew ?_) | (with_reducible refine Below.setCell ?_ (by first | omega | (simp; done) | (simp; omega)) _) | (with_reducible refine Below.alloc ?_ (by first | omega | (simp; done) | (simp; omega)) _) | refine Below.trans ?_ (Below.mono (by with_reducible assumption) (by first | omega | (simp; done) | (simp; omega)))))
  have hz1 := hb1.size; (try simp at hz1); have hB1 : Below w.heap.size w w6 := (by refine Below.trans ?_ (Below.mono hb1 (by first | omega | (simp; done) | (simp; omega))); (repeat (first | with_reducible exact Below.refl _ _ | with_reducible assumption | (with_reducible refine below_drewN ?_ _) | (with_reducible refine Below.drew ?_) | (with_reducible refine Below.setCell ?_ (by first | omega | (simp; done) | (simp; omega)) _) | (with_reducible refine Below.alloc ?_ (by first | omega | (simp; done) | (simp; omega)) _) | refine Below.trans ?_ (Below.mono (by with_reducible assumption) (by first | omega | (simp; done) | (simp; omega))))))
  clear hb1
  go_wp2_with fail
  refine (eqIntS_same (xs := ts) (hI5.later hDw6) (hI3.later hCw6)).mono ?_
  rintro e w7 ⟨rfl, hb1⟩
  have hDw7 : Below w5.heap.size w5 w7 := by (repeat (first | with_reducible exact Below.refl _ _ | with_reducible assumption | (with_reducible refine below_drewN ?_ _) | (with_reducible refine Below.drew ?_) | (with_reducible refine Below.setCell ?_ (by first | omega | (simp; done) | (simp; omega)) _) | (with_reducible refine Below.alloc ?_ (by first | omega | (simp; done) | (simp; omega)) _) | refine Below.trans ?_ (Below.mono (by with_reducible assumption) (by first | omega | (simp; done) | (simp; omega)))))
  have hCw7 : Below w3.heap.size w3 w7 := by (repeat (first | with_reducible exact Below.refl _ _ | with_reducible assumption | (with_reducible refine below_drewN ?_ _) | (with_reducible refine Below.drew ?_) | (with_reducible refine Below.setCell ?_ (by first | omega | (simp; done) | (simp; omega)) _) | (with_reducible refine Below.alloc ?_ (by first | omega | (simp; done) | (simp; omega)) _) | refine Below.trans ?_ (Below.mono (by with_reducible assumption) (by first | omega | (simp; done) | (simp; omega)))))
  have hz1 := hb1.size; (try simp at hz1); have hB1 : Below w.heap.size w w7 := (by refine Below.trans ?_ (Below.mono hb1 (by first | omega | (simp; done) | (simp; omega))); (repeat (first | with_reducible exact Below.refl _ _ | with_reducible assumption | (with_reducible refine below_drewN ?_ _) | (with_reducible refine Below.drew ?_) | (with_reducible refine Below.setCell ?_ (by first | omega | (simp; done) | (simp; omega)) _) | (with_reducible refine Below.alloc ?_ (by first | omega | (simp; done) | (simp; omega)) _) | refine Below.trans ?_ (Below.mono (by with_reducible assumption) (by first | omega | (simp; done) | (simp; omega))))))
  clear hb1
  go_wp2_with fail
  refine (toLinS_any (ls := ls) (hA.later (by (repeat (first | with_reducible exact Below.refl _ _ | with_reducible assumption | (with_reducible refine below_drewN ?_ _) | (with_reducible refine Below.drew ?_) | (with_reducible refine Below.setCell ?_ (by first | omega | (simp; done) | (simp; omega)) _) | (with_reducible refine Below.alloc ?_ (by first | omega | (simp; done) | (simp; omega)) _) | refine Below.trans ?_ (Below.mono (by with_reducible assumption) (by first | omega | (simp; done) | (simp; omega))))))) hn hm).mono ?_
  rintro e w8 ⟨rfl, hL8, hb1⟩
  have hDw8 : Below w5.heap.size w5 w8 := by (repeat (first | with_reducible exact Below.refl _ _ | with_reducible assumption | (with_reducible refine below_drewN ?_ _) | (with_reducible refine Below.drew ?_) | (with_reducible refine Below.setCell ?_ (by first | omega | (simp; done) | (simp; omega)) _) | (with_reducible refine Below.alloc ?_ (by first | omega | (simp; done) | (simp; omega)) _) | refine Below.trans ?_ (Below.mono (by with_reducible assumption) (by first | omega | (simp; done) | (simp; omega)))))
  have hCw8 : Below w3.heap.size w3 w8 := by (repeat (first | with_reducible exact Below.refl _ _ | with_reducible assumption | (with_reducible refine below_drewN ?_ _) | (with_reducible refine Below.drew ?_) | (with_reducible refine Below.setCell ?_ (by first | omega | (simp; done) | (simp; omega)) _) | (with_reducible refine Below.alloc ?_ (by first | omega | (simp; done) | (simp; omega)) _) | refine Below.trans ?_ (Below.mono (by with_reducible assumption) (by first | omega | (simp; done) | (simp; omega)))))
  have hz1 := hb1.size; (try simp at hz1); have hB1 : Below w.heap.size w w8 := (by refine Below.trans ?_ (Below.mono hb1 (by first | omega | (simp; done) | (simp; omega))); (repeat (first | with_reducible exact Below.refl _ _ | with_reducible assumption | (with_reducible refine below_drewN ?_ _) | (with_reducible refine Below.drew ?_) | (with_reducible refine Below.setCell ?_ (by first | omega | (simp; done) | (simp; omega)) _) | (with_reducible refine Below.alloc ?_ (by first | omega | (simp; done) | (simp; omega)) _) | refine Below.trans ?_ (Below.mono (by with_reducible assumption) (by first | omega | (simp; done) | (simp; omega))))))
  clear hb1
  go_wp2_with fail
  refine (eqLinS_same (ls := ls) (hL5.later hDw8) hL8).mono ?_
  rintro e w9 ⟨rfl, hb1⟩
  have hDw9 : Below w5.heap.size w5 w9 := by (repeat (first | with_reducible exact Below.refl _ _ | with_reducible assumption | (with_reducible refine below_drewN ?_ _) | (with_reducible refine Below.drew ?_) | (with_reducible refine Below.setCell ?_ (by first | omega | (simp; done) | (simp; omega)) _) | (with_reducible refine Below.alloc ?_ (by first | omega | (simp; done) | (simp; omega)) _) | refine Below.trans ?_ (Below.mono (by with_reducible assumption) (by first | omega | (simp; done) | (simp; omega)))))
  have hCw9 : Below w3.heap.size w3 w9 := by (repeat (first | with_reducible exact Below.refl _ _ | with_reducible assumption | (with_reducible refine below_drewN ?_ _) | (with_reducible refine Below.drew ?_) | (with_reducible refine Below.setCell ?_ (by first | omega | (simp; done) | (simp; omega)) _) | (with_reducible refine Below.alloc ?_ (by first | omega | (simp; done) | (simp; omega)) _) | refine Below.trans ?_ (Below.mono (by with_reducible assumption) (by first | omega | (simp; done) | (simp; omega)))))
  have hz1 := hb1.size; (try simp at hz1); have hB1 : Below w.heap.size w w9 := (by refine Below.trans ?_ (Below.mono hb1 (by first | omega | (simp; done) | (simp; omega))); (repeat (first | with_reducible exact Below.refl _ _ | with_reducible assumption | (with_reducible refine below_drewN ?_ _) | (with_reducible refine Below.drew ?_) | (with_reducible refine Below.setCell ?_ (by first | omega | (simp; done) | (simp; omega)) _) | (with_reducible refine Below.alloc ?_ (by first | omega | (simp; done) | (simp; omega)) _) | refine Below.trans ?_ (Below.mono (by with_reducible assumption) (by first | omega | (simp; done) | (simp; omega))))))
  clear hb1
  have hMk9 := hMk5.later hDw9
  go_wp2_with fail
  refine (markLinS_any (R := w3.heap.size) (b := w4.heap.size) 1 hMk9 (by omega) (by omega) hn hm (by omega)).mono ?_
  rw [HQ.out]
  rintro e w10 ⟨rfl, hsp⟩
  have hz10 := hsp.size
  have hB10 : Below w.heap.size w w10 := Below.trans hB1 (hsp.below (by omega) (by omega))
  have hCw10 : Below w3.heap.size w3 w10 := Below.trans hCw9 (hsp.below (by omega) (by omega))
  have hM10 := (hM5.later hDw9).span hsp (Nat.le_refl _)
  have hN10 := (hN5.later hDw9).span hsp (Nat.le_refl _)
  have hV10 := (hV5.later hDw9).spanMine (hM5.later hDw9) hsp (Nat.le_refl _)
  have hI10 := (hI5.later hDw9).spanMine (hN5.later hDw9) hsp (Nat.le_refl _)
  have hB1 := hB10
  clear hsp hMk9 hMk5 hL5 hL8 hV5 hI5 hM5 hN5 hDw6 hDw7 hDw8 hDw9
  go_wp2_with fail
  refine (eqRatS_same (vs := vs) hV10 (hV3.later hCw10)).mono ?_
  rintro e w11 ⟨rfl, hb1⟩
  have hDw11 : Below w10.heap.size w10 w11 := hb1
  have hCw11 : Below w3.heap.size w3 w11 := by (repeat (first | with_reducible exact Below.refl _ _ | with_reducible assumption | (with_reducible refine below_drewN ?_ _) | (with_reducible refine Below.drew ?_) | (with_reducible refine Below.setCell ?_ (by first | omega | (simp; done) | (simp; omega)) _) | (with_reducible refine Below.alloc ?_ (by first | omega | (simp; done) | (simp; omega)) _) | refine Below.trans ?_ (Below.mono (by with_reducible assumption) (by first | omega | (simp; done) | (simp; omega)))))
  have hz1 := hb1.size; (try simp at hz1); have hB1 : Below w.heap.size w w11 := (by refine Below.trans ?_ (Below.mono hb1 (by first | omega | (simp; done) | (simp; omega))); (repeat (first | with_reducible exact Below.refl _ _ | with_reducible assumption | (with_reducible refine below_drewN ?_ _) | (with_reducible refine Below.drew ?_) | (with_reducible refine Below.setCell ?_ (by first | omega | (simp; done) | (simp; omega)) _) | (with_reducible refine Below.alloc ?_ (by first | omega | (simp; done) | (simp; omega)) _) | refine Below.trans ?_ (Below.mono (by with_reducible assumption) (by first | omega | (simp; done) | (simp; omega))))))
  clear hb1
  go_wp2_with fail
  refine (eqIntS_same (xs := ts) (hI10.later hDw11) (hI3.later hCw11)).mono ?_
  rintro e w12 ⟨rfl, hb1⟩
  have hDw12 : Below w10.heap.size w10 w12 := by (repeat (first | with_reducible exact Below.refl _ _ | with_reducible assumption | (with_reducible refine below_drewN ?_ _) | (with_reducible refine Below.drew ?_) | (with_reducible refine Below.setCell ?_ (by first | omega | (simp; done) | (simp; omega)) _) | (with_reducible refine Below.alloc ?_ (by first | omega | (simp; done) | (simp; omega)) _) | refine Below.trans ?_ (Below.mono (by with_reducible assumption) (by first | omega | (simp; done) | (simp; omega)))))
  have hCw12 : Below w3.heap.size w3 w12 := by (repeat (first | with_reducible exact Below.refl _ _ | with_reducible assumption | (with_reducible refine below_drewN ?_ _) | (with_reducible refine Below.drew ?_) | (with_reducible refine Below.setCell ?_ (by first | omega | (simp; done) | (simp; omega)) _) | (with_reducible refine Below.alloc ?_ (by first | omega | (simp; done) | (simp; omega)) _) | refine Below.trans ?_ (Below.mono (by with_reducible assumption) (by first | omega | (simp; done) | (simp; omega)))))
  have hz1 := hb1.size; (try simp at hz1); have hB1 : Below w.heap.size w w12 := (by refine Below.trans ?_ (Below.mono hb1 (by first | omega | (simp; done) | (simp; omega))); (repeat (first | with_reducible exact Below.refl _ _ | with_reducible assumption | (with_reducible refine below_drewN ?_ _) | (with_reducible refine Below.drew ?_) | (with_reducible refine Below.setCell ?_ (by first | omega | (simp; done) | (simp; omega)) _) | (with_reducible refine Below.alloc ?_ (by first | omega | (simp; done) | (simp; omega)) _) | refine Below.trans ?_ (Below.mono (by with_reducible assumption) (by first | omega | (simp; done) | (simp; omega))))))
  clear hb1
  have hV12 := hV10.later hDw12
  have hI12 := hI10.later hDw12
  have hM12 := hM10.later hDw12
  have hN12 := hN10.later hDw12
  clear hV10 hI10 hM10 hN10 hDw11 hDw12
  go_wp2_with fail
  refine (markRatS_gen (lo := w4.heap.size) 1 hV12 hM12 (by omega) (by omega) (by omega) hn4).mono ?_
  rintro e w13 ⟨rfl, hR13, hs13, hb1⟩
  have hz13 := hb1.size
  have hCw13 : Below w3.heap.size w3 w13 := by (repeat (first | with_reducible exact Below.refl _ _ | with_reducible assumption | (with_reducible refine below_drewN ?_ _) | (with_reducible refine Below.drew ?_) | (with_reducible refine Below.setCell ?_ (by first | omega | (simp; done) | (simp; omega)) _) | (with_reducible refine Below.alloc ?_ (by first | omega | (simp; done) | (simp; omega)) _) | refine Below.trans ?_ (Below.mono (by with_reducible assumption) (by first | omega | (simp; done) | (simp; omega)))))
  have hB13 : Below w.heap.size w w13 := by (repeat (first | with_reducible exact Below.refl _ _ | with_reducible assumption | (with_reducible refine below_drewN ?_ _) | (with_reducible refine Below.drew ?_) | (with_reducible refine Below.setCell ?_ (by first | omega | (simp; done) | (simp; omega)) _) | (with_reducible refine Below.alloc ?_ (by first | omega | (simp; done) | (simp; omega)) _) | refine Below.trans ?_ (Below.mono (by with_reducible assumption) (by first | omega | (simp; done) | (simp; omega)))))
  have hI13 : Ints w13 B5 mt ts ∧ Mine w4.heap.size w13 B5 mt := by
    rcases hNM.out with e | e
    · rw [← hs13 (e)]; exact ⟨hI12, hN12⟩
    · obtain rfl : mt = 0 := e
      exact ⟨⟨hI12.len, fun h => absurd h (by omega), hI12.rng, by omega⟩, fun h => absurd h (by omega)⟩
  clear hb1 hV12 hI12 hM12 hN12 hs13
  have hmt : mt ≤ 1000000 := by
    have := times_few ls
    have e := HK.out.2.1
    rw [e, hgm] at this
    omega
  go_wp2_with fail
  refine (markIntS_gen (lo := w4.heap.size) (1 + 2 * nv) hI13.1 hI13.2 (by omega) (by omega) (by omega) hmt).mono ?_
  rintro e w14 ⟨rfl, hI14, hs14, hb1⟩
  have hz14 := hb1.size
  have hCw14 : Below w3.heap.size w3 w14 := by (repeat (first | with_reducible exact Below.refl _ _ | with_reducible assumption | (with_reducible refine below_drewN ?_ _) | (with_reducible refine Below.drew ?_) | (with_reducible refine Below.setCell ?_ (by first | omega | (simp; done) | (simp; omega)) _) | (with_reducible refine Below.alloc ?_ (by first | omega | (simp; done) | (simp; omega)) _) | refine Below.trans ?_ (Below.mono (by with_reducible assumption) (by first | omega | (simp; done) | (simp; omega)))))
  have hB14 : Below w.heap.size w w14 := by (repeat (first | with_reducible exact Below.refl _ _ | with_reducible assumption | (with_reducible refine below_drewN ?_ _) | (with_reducible refine Below.drew ?_) | (with_reducible refine Below.setCell ?_ (by first | omega | (simp; done) | (simp; omega)) _) | (with_reducible refine Below.alloc ?_ (by first | omega | (simp; done) | (simp; omega)) _) | refine Below.trans ?_ (Below.mono (by with_reducible assumption) (by first | omega | (simp; done) | (simp; omega)))))
  have hR14 : Rats w14 A5 nv (ratMarks nv 1) := by
    rcases hNM.out with e | e
    · obtain rfl : nv = 0 := e
      exact ⟨hR13.len, fun h => absurd h (by omega), hR13.rng, by omega⟩
    · rw [← hs14 (e)]; exact hR13
  clear hb1 hR13 hI13 hs14
  go_wp2_with fail
  refine (heldRatS_any 1 hR14 (by omega) (by omega) hn4).mono ?_
  rintro e w' ⟨rfl, rfl⟩
  go_wp2_with fail
  refine (heldIntS_any (1 + 2 * nv) hI14 (by omega) (by omega) (by omega)).mono ?_
  rintro e w' ⟨rfl, rfl⟩
  have hqq : ((1 : Int) + 2 * nv + mt != 1 + 2 * nv + mt) = false := by simp
  go_wp2_with fail
  refine (toLinS_any (ls := ls) (hA.later (by (repeat (first | with_reducible exact Below.refl _ _ | with_reducible assumption | (with_reducible refine below_drewN ?_ _) | (with_reducible refine Below.drew ?_) | (with_reducible refine Below.setCell ?_ (by first | omega | (simp; done) | (simp; omega)) _) | (with_reducible refine Below.alloc ?_ (by first | omega | (simp; done) | (simp; omega)) _) | refine Below.trans ?_ (Below.mono (by with_reducible assumption) (by first | omega | (simp; done) | (simp; omega))))))) hn hm).mono ?_
  rintro e w15 ⟨rfl, hL15, hb1⟩
  have hEw15 : Below w14.heap.size w14 w15 := hb1
  have hCw15 : Below w3.heap.size w3 w15 := by (repeat (first | with_reducible exact Below.refl _ _ | with_reducible assumption | (with_reducible refine below_drewN ?_ _) | (with_reducible refine Below.drew ?_) | (with_reducible refine Below.setCell ?_ (by first | omega | (simp; done) | (simp; omega)) _) | (with_reducible refine Below.alloc ?_ (by first | omega | (simp; done) | (simp; omega)) _) | refine Below.trans ?_ (Below.mono (by with_reducible assumption) (by first | omega | (simp; done) | (simp; omega)))))
  have hz1 := hb1.size; (try simp at hz1); have hB1 : Below w.heap.size w w15 := (by refine Below.trans ?_ (Below.mono hb1 (by first | omega | (simp; done) | (simp; omega))); (repeat (first | with_reducible exact Below.refl _ _ | with_reducible assumption | (with_reducible refine below_drewN ?_ _) | (with_reducible refine Below.drew ?_) | (with_reducible refine Below.setCell ?_ (by first | omega | (simp; done) | (simp; omega)) _) | (with_reducible refine Below.alloc ?_ (by first | omega | (simp; done) | (simp; omega)) _) | refine Below.trans ?_ (Below.mono (by with_reducible assumption) (by first | omega | (simp; done) | (simp; omega))))))
  clear hb1
  go_wp2_with fail
  refine (iRunK HK.out hL15).mono ?_
  rw [hgn, hgm]
  rintro e w16 ⟨A9, c9, B9, d9, rfl, ⟨hV16, hI16⟩, _, _, _, hb1⟩
  have hEw16 : Below w14.heap.size w14 w16 := by (repeat (first | with_reducible exact Below.refl _ _ | with_reducible assumption | (with_reducible refine below_drewN ?_ _) | (with_reducible refine Below.drew ?_) | (with_reducible refine Below.setCell ?_ (by first | omega | (simp; done) | (simp; omega)) _) | (with_reducible refine Below.alloc ?_ (by first | omega | (simp; done) | (simp; omega)) _) | refine Below.trans ?_ (Below.mono (by with_reducible assumption) (by first | omega | (simp; done) | (simp; omega)))))
  have hCw16 : Below w3.heap.size w3 w16 := by (repeat (first | with_reducible exact Below.refl _ _ | with_reducible assumption | (with_reducible refine below_drewN ?_ _) | (with_reducible refine Below.drew ?_) | (with_reducible refine Below.setCell ?_ (by first | omega | (simp; done) | (simp; omega)) _) | (with_reducible refine Below.alloc ?_ (by first | omega | (simp; done) | (simp; omega)) _) | refine Below.trans ?_ (Below.mono (by with_reducible assumption) (by first | omega | (simp; done) | (simp; omega)))))
  have hz1 := hb1.size; (try simp at hz1); have hB1 : Below w.heap.size w w16 := (by refine Below.trans ?_ (Below.mono hb1 (by first | omega | (simp; done) | (simp; omega))); (repeat (first | with_reducible exact Below.refl _ _ | with_reducible assumption | (with_reducible refine below_drewN ?_ _) | (with_reducible refine Below.drew ?_) | (with_reducible refine Below.setCell ?_ (by first | omega | (simp; done) | (simp; omega)) _) | (with_reducible refine Below.alloc ?_ (by first | omega | (simp; done) | (simp; omega)) _) | refine Below.trans ?_ (Below.mono (by with_reducible assumption) (by first | omega | (simp; done) | (simp; omega))))))
  clear hb1 hL15
  go_wp2_with fail
  refine (eqRatS_same (vs := vs) hV16 (hV3.later hCw16)).mono ?_
  rintro e w17 ⟨rfl, hb1⟩
  ((have hFw17 : Below w16.heap.size w16 w17 := hb1); (have hEw17 : Below w14.heap.size w14 w17 := by (repeat (first | with_reducible exact Below.refl _ _ | with_reducible assumption | (with_reducible refine below_drewN ?_ _) | (with_reducible refine Below.drew ?_) | (with_reducible refine Below.setCell ?_ (by first | omega | (simp; done) | (simp; omega)) _) | (with_reducible refine Below.alloc ?_ (by first | omega | (simp; done) | (simp; omega)) _) | refine Below.trans ?_ (Below.mono (by with_reducible assumption) (by first | omega | (simp; done) | (simp; omega)))))))
  have hCw17 : Below w3.heap.size w3 w17 := by (repeat (first | with_reducible exact Below.refl _ _ | with_reducible assumption | (with_reducible refine below_drewN ?_ _) | (with_reducible refine Below.drew ?_) | (with_reducible refine Below.setCell ?_ (by first | omega | (simp; done) | (simp; omega)) _) | (with_reducible refine Below.alloc ?_ (by first | omega | (simp; done) | (simp; omega)) _) | refine Below.trans ?_ (Below.mono (by with_reducible assumption) (by first | omega | (simp; done) | (simp; omega)))))
  have hz1 := hb1.size; (try simp at hz1); have hB1 : Below w.heap.size w w17 := (by refine Below.trans ?_ (Below.mono hb1 (by first | omega | (simp; done) | (simp; omega))); (repeat (first | with_reducible exact Below.refl _ _ | with_reducible assumption | (with_reducible refine below_drewN ?_ _) | (with_reducible refine Below.drew ?_) | (with_reducible refine Below.setCell ?_ (by first | omega | (simp; done) | (simp; omega)) _) | (with_reducible refine Below.alloc ?_ (by first | omega | (simp; done) | (simp; omega)) _) | refine Below.trans ?_ (Below.mono (by with_reducible assumption) (by first | omega | (simp; done) | (simp; omega))))))
  clear hb1
  go_wp2_with fail
  refine (eqIntS_same (xs := ts) (hI16.later hFw17) (hI3.later hCw17)).mono ?_
  rintro e w18 ⟨rfl, hb1⟩
  have hEw18 : Below w14.heap.size w14 w18 := by (repeat (first | with_reducible exact Below.refl _ _ | with_reducible assumption | (with_reducible refine below_drewN ?_ _) | (with_reducible refine Below.drew ?_) | (with_reducible refine Below.setCell ?_ (by first | omega | (simp; done) | (simp; omega)) _) | (with_reducible refine Below.alloc ?_ (by first | omega | (simp; done) | (simp; omega)) _) | refine Below.trans ?_ (Below.mono (by with_reducible assumption) (by first | omega | (simp; done) | (simp; omega)))))
  have hCw18 : Below w3.heap.size w3 w18 := by (repeat (first | with_reducible exact Below.refl _ _ | with_reducible assumption | (with_reducible refine below_drewN ?_ _) | (with_reducible refine Below.drew ?_) | (with_reducible refine Below.setCell ?_ (by first | omega | (simp; done) | (simp; omega)) _) | (with_reducible refine Below.alloc ?_ (by first | omega | (simp; done) | (simp; omega)) _) | refine Below.trans ?_ (Below.mono (by with_reducible assumption) (by first | omega | (simp; done) | (simp; omega)))))
  have hz1 := hb1.size; (try simp at hz1); have hB1 : Below w.heap.size w w18 := (by refine Below.trans ?_ (Below.mono hb1 (by first | omega | (simp; done) | (simp; omega))); (repeat (first | with_reducible exact Below.refl _ _ | with_reducible assumption | (with_reducible refine below_drewN ?_ _) | (with_reducible refine Below.drew ?_) | (with_reducible refine Below.setCell ?_ (by first | omega | (simp; done) | (simp; omega)) _) | (with_reducible refine Below.alloc ?_ (by first | omega | (simp; done) | (simp; omega)) _) | refine Below.trans ?_ (Below.mono (by with_reducible assumption) (by first | omega | (simp; done) | (simp; omega))))))
  clear hb1
  go_wp2_with fail
  refine (heldRatS_any 1 (hR14.later hEw18) (by omega) (by omega) hn4).mono ?_
  rintro e w' ⟨rfl, rfl⟩
  go_wp2_with fail
  refine (heldIntS_any (1 + 2 * nv) (hI14.later hEw18) (by omega) (by omega) (by omega)).mono ?_
  rintro e w' ⟨rfl, rfl⟩
  go_wp2
  go_ret
  exact ⟨rfl, by (repeat (first | with_reducible exact Below.refl _ _ | with_reducible assumption | (with_reducible refine below_drewN ?_ _) | (with_reducible refine Below.drew ?_) | (with_reducible refine Below.setCell ?_ (by first | omega | (simp; done) | (simp; omega)) _) | (with_reducible refine Below.alloc ?_ (by first | omega | (simp; done) | (simp; omega)) _) | refine Below.trans ?_ (Below.mono (by with_reducible assumption) (by first | omega | (simp; done) | (simp; omega)))))⟩

theorem fnExactFarRun_open {H : Type} {enc : TypeId × Value → H} {W : World} {base : Nat} {args : Array Value} {ds : List (DataW H)} {p : List MemPlace}
    (hval : ∀ (j : Nat) t v, #[53][j]? = some t → args[j]? = some v → Value.okWide Try.prog W .any base t v)
    (hA : DataW.TrodAll enc Try.prog W 0 (fun _ => true) true #[53].toList args.toList ds p) :
    Calls Try.prog 10 args W fun e w' => e = .returned (.bool true) ∧ Below W.heap.size W w' := by
  obtain ⟨v0, d0, rfl, rfl, h0⟩ := trodAll_one hA
  obtain ⟨A, n, c, ls, rfl, hL⟩ := open_lins53 (hval 0 _ v0 rfl rfl) h0
  exact fnExactFarRun_walk hL
set_option maxRecDepth 100000 in
theorem fnExactFarRun_lifted (os : Os) (started : os.Started) (H : Type) (enc : TypeId × Value → H) :
    ReturnsInHanded {} Try.checked os 10 .any (Rows.fnExactFarRunSpec.pre6 enc Try.prog Try.f10 Rows.fnExactFarRunRow.domain false) (Rows.fnExactFarRunSpec.post enc Try.prog Try.f10 false true false false) := by
  refine returnsInHanded_of_change (C := Try.checked) own started (by kernel_rfl) Try.func10
    (ChangeSpec.witness6 (enc := enc) (C := Try.checked) false ⟨#[], #[.slice none 0 0], []⟩ 8 (by kernel_rfl) (by kernel_rfl) (by kernel_rfl) (by kernel_rfl)) ?_
  intro W base args ds gs before hval0 hW hcnd _
  have hval : ∀ (j : Nat) t v, Try.f10.params[j]? = some t → args[j]? = some v → Value.okWide Try.prog W .any base t v := hval0
  refine law_post hW rfl rfl ?_ ?_ ?_
  · have hr : (Try.f10.params.toList.all fun t => Try.prog.readableRec t && decide (t < Try.prog.types.size)) = true := by kernel_rfl
    intro t ht
    have := List.all_eq_true.1 hr t ht
    simpa using this
  · intro ds hl
    match ds, hl with
    | [d], _ => rfl
  · obtain ⟨p, q, hA0, _⟩ := hW
    have hA : DataW.TrodAll enc Try.prog W 0 (fun _ => true) true Try.f10.params.toList args.toList ds p := hA0
    clear hA0 hval0
    rw [Try.params10] at hA hval
    exact fnExactFarRun_open hval hA

theorem fnExactFarRun_facts : joinedFacts Try.prog 10 Try.f10 Rows.fnExactFarRunSpec Rows.fnExactFarRunRow = true :=
  joined_of _ _ _ _ _ (by kernel_rfl) laidOut mapsRowed_ok (by kernel_rfl) (by kernel_rfl) (by kernel_rfl) stops_eq (by kernel_rfl) stopKnobs_eq (by kernel_rfl) (by kernel_rfl) (by kernel_rfl) (by kernel_rfl) (by kernel_rfl) (by kernel_rfl) (by kernel_rfl) (by kernel_rfl) (by kernel_rfl) (by kernel_rfl) (by kernel_rfl) (by kernel_rfl) (by kernel_rfl) (plainKeys_eq _ rfl) (by kernel_rfl) heard_ok mayEnter_ok (lifted_eq _ rfl) (make_eq _ rfl) (by kernel_rfl) (by kernel_rfl) (by kernel_rfl) (by kernel_rfl)

theorem fnExactFarRun_holds : Rows.FnExactFarRunSaid :=
  OpenClaim.holds_of_wide 10 Try.f10 rfl rfl rfl rfl rfl rfl rfl ⟨rfl, rfl, rfl, rfl, rfl⟩ rfl rfl rfl rfl rfl (by kernel_rfl) Try.func10 fnExactFarRun_facts
    (of_decide_eq_true (by kernel_rfl)) (by unfold Func.isWrapper; first | (rw [if_pos (by decide +kernel)]; kernel_rfl) | (rw [if_neg (by decide +kernel)]; exact ⟨rfl, rfl⟩))
    (fun os started H enc _ => fnExactFarRun_lifted os started H enc)
#print axioms fnExactFarRun_holds
end Go.Proofs.Ytccjbipmlpnhkaa
