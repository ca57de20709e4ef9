/- 'laws.FnExactFarOk': for every input the call returns true and leaves its arguments as they were. No condition. -/
import Derived.Test.YthamgdinhlnldaaFs
import Derived.Test.YthamgdinhlnldaaL
namespace Go.Proofs.Ythamgdinhlnldaa
set_option maxRecDepth 100000
open Go.ChangeShapes Go.WideShapes Go.ChangeAt Go.RowKit
set_option linter.unusedSimpArgs false
set_option linter.unusedVariables false

set_option maxRecDepth 100000 in
set_option maxHeartbeats 8000000 in
theorem fnExactFarOk_walk {A A' : Option Addr} {n c n' c' : Nat} {ls : List LinV} {ts : List Int} {w : World} (hA : Lins w A n ls) (hT : Ints w A' n' ts) :
    Calls Try.prog 3 #[.slice A n c, .slice A' n' c'] w fun e w' => e = .returned (.bool true) ∧ Below w.heap.size w w' := by
  have hfew' := hT.few
  obtain ⟨f, hf⟩ : ∃ f, farOk ls ts = f := ⟨_, rfl⟩
  by_cases hn1 : ¬ n' ≤ 1048576
  · go_enter Try.func3, Try.ntmps3
    go_wp2
    go_ret
    exact ⟨rfl, Below.refl _ _⟩
  have hn2 : n' ≤ 1048576 := by omega
  go_enter Try.func3, Try.ntmps3
  go_wp2_with fail
  refine (szLinS_any 1048576 hA (by omega) (by omega)).mono ?_
  rintro e w1 ⟨r1, rfl, hr1, hb1⟩
  have hz1 := hb1.size
  have hB1 : Below w.heap.size w w1 := hb1
  clear hb1
  rcases hr1 with rfl | ⟨hr0, hrE⟩
  · go_wp2
    go_ret
    exact ⟨rfl, by (repeat (first | with_reducible exact Below.refl _ _ | with_reducible assumption | (with_reducible refine below_drewN ?_ _) | (with_reducible refine Below.drew ?_) | (with_reducible refine Below.setCell ?_ (by first | omega | (simp; done) | (simp; omega)) _) | (with_reducible refine Below.alloc ?_ (by first | omega | (simp; done) | (simp; omega)) _) | refine Below.trans ?_ (Below.mono (by with_reducible assumption) (by first | omega | (simp; done) | (simp; omega)))))⟩
  have hn : n ≤ 1048576 := by omega
  have hm : lsum ls n ≤ 1048576 := by omega
  clear hrE
  go_wp2_with fail
  refine (toLinS_any (ls := ls) (hA.later (by (repeat (first | with_reducible exact Below.refl _ _ | with_reducible assumption | (with_reducible refine below_drewN ?_ _) | (with_reducible refine Below.drew ?_) | (with_reducible refine Below.setCell ?_ (by first | omega | (simp; done) | (simp; omega)) _) | (with_reducible refine Below.alloc ?_ (by first | omega | (simp; done) | (simp; omega)) _) | refine Below.trans ?_ (Below.mono (by with_reducible assumption) (by first | omega | (simp; done) | (simp; omega))))))) hn hm).mono ?_
  rintro e w2 ⟨rfl, hL1, hb1⟩
  have hz1 := hb1.size; (try simp at hz1); have hB1 : Below w.heap.size w w2 := (by refine Below.trans ?_ (Below.mono hb1 (by first | omega | (simp; done) | (simp; omega))); (repeat (first | with_reducible exact Below.refl _ _ | with_reducible assumption | (with_reducible refine below_drewN ?_ _) | (with_reducible refine Below.drew ?_) | (with_reducible refine Below.setCell ?_ (by first | omega | (simp; done) | (simp; omega)) _) | (with_reducible refine Below.alloc ?_ (by first | omega | (simp; done) | (simp; omega)) _) | refine Below.trans ?_ (Below.mono (by with_reducible assumption) (by first | omega | (simp; done) | (simp; omega)))))); skip; clear hb1
  go_wp2_with fail
  refine (toIntS_any (xs := ts) (hT.later (by (repeat (first | with_reducible exact Below.refl _ _ | with_reducible assumption | (with_reducible refine below_drewN ?_ _) | (with_reducible refine Below.drew ?_) | (with_reducible refine Below.setCell ?_ (by first | omega | (simp; done) | (simp; omega)) _) | (with_reducible refine Below.alloc ?_ (by first | omega | (simp; done) | (simp; omega)) _) | refine Below.trans ?_ (Below.mono (by with_reducible assumption) (by first | omega | (simp; done) | (simp; omega))))))) hn2).mono ?_
  rintro e w3 ⟨rfl, ⟨hV1, _⟩, hb1⟩
  have hz1 := hb1.size; (try simp at hz1); have hB1 : Below w.heap.size w w3 := (by refine Below.trans ?_ (Below.mono hb1 (by first | omega | (simp; done) | (simp; omega))); (repeat (first | with_reducible exact Below.refl _ _ | with_reducible assumption | (with_reducible refine below_drewN ?_ _) | (with_reducible refine Below.drew ?_) | (with_reducible refine Below.setCell ?_ (by first | omega | (simp; done) | (simp; omega)) _) | (with_reducible refine Below.alloc ?_ (by first | omega | (simp; done) | (simp; omega)) _) | refine Below.trans ?_ (Below.mono (by with_reducible assumption) (by first | omega | (simp; done) | (simp; omega)))))); (replace hL1 : Lins _ (some ⟨w1.heap.size, 0, none⟩) n ls := Lins.later (by (repeat (first | with_reducible exact hL1 | (with_reducible refine Lins.alloc ?_ _) | (with_reducible refine Lins.drewN ?_ _) | (with_reducible refine Lins.drew ?_)))) hb1); clear hb1
  go_wp2_with fail
  refine (sFarOk_any (ls := ls) (ts := ts) (by (repeat (first | with_reducible exact hL1 | (with_reducible refine Lins.alloc ?_ _) | (with_reducible refine Lins.drewN ?_ _) | (with_reducible refine Lins.drew ?_)))) (by (repeat (first | with_reducible exact hV1 | (with_reducible refine Ints.far ?_ (by first | omega | (simp; done) | (simp; omega)) _) | (with_reducible refine Ints.alloc ?_ _) | (with_reducible refine Ints.drewN ?_ _) | (with_reducible refine Ints.drew ?_))))).mono ?_
  rintro e w4 ⟨rfl, hb1⟩
  have hz1 := hb1.size; (try simp at hz1); have hB1 : Below w.heap.size w w4 := (by refine Below.trans ?_ (Below.mono hb1 (by first | omega | (simp; done) | (simp; omega))); (repeat (first | with_reducible exact Below.refl _ _ | with_reducible assumption | (with_reducible refine below_drewN ?_ _) | (with_reducible refine Below.drew ?_) | (with_reducible refine Below.setCell ?_ (by first | omega | (simp; done) | (simp; omega)) _) | (with_reducible refine Below.alloc ?_ (by first | omega | (simp; done) | (simp; omega)) _) | refine Below.trans ?_ (Below.mono (by with_reducible assumption) (by first | omega | (simp; done) | (simp; omega)))))); (replace hL1 : Lins _ (some ⟨w1.heap.size, 0, none⟩) n ls := Lins.later (by (repeat (first | with_reducible exact hL1 | (with_reducible refine Lins.alloc ?_ _) | (with_reducible refine Lins.drewN ?_ _) | (with_reducible refine Lins.drew ?_)))) hb1; replace hV1 : Ints _ (some ⟨w2.heap.size, 0, none⟩) n' ts := Ints.later (by (repeat (first | with_reducible exact hV1 | (with_reducible refine Ints.far ?_ (by first | omega | (simp; done) | (simp; omega)) _) | (with_reducible refine Ints.alloc ?_ _) | (with_reducible refine Ints.drewN ?_ _) | (with_reducible refine Ints.drew ?_)))) hb1); clear hb1
  rw [hf]
  go_wp2_with fail
  refine (toLinS_any (ls := ls) (hA.later (by (repeat (first | with_reducible exact Below.refl _ _ | with_reducible assumption | (with_reducible refine below_drewN ?_ _) | (with_reducible refine Below.drew ?_) | (with_reducible refine Below.setCell ?_ (by first | omega | (simp; done) | (simp; omega)) _) | (with_reducible refine Below.alloc ?_ (by first | omega | (simp; done) | (simp; omega)) _) | refine Below.trans ?_ (Below.mono (by with_reducible assumption) (by first | omega | (simp; done) | (simp; omega))))))) hn hm).mono ?_
  rintro e w5 ⟨rfl, hL2, hb1⟩
  have hz1 := hb1.size; (try simp at hz1); have hB1 : Below w.heap.size w w5 := (by refine Below.trans ?_ (Below.mono hb1 (by first | omega | (simp; done) | (simp; omega))); (repeat (first | with_reducible exact Below.refl _ _ | with_reducible assumption | (with_reducible refine below_drewN ?_ _) | (with_reducible refine Below.drew ?_) | (with_reducible refine Below.setCell ?_ (by first | omega | (simp; done) | (simp; omega)) _) | (with_reducible refine Below.alloc ?_ (by first | omega | (simp; done) | (simp; omega)) _) | refine Below.trans ?_ (Below.mono (by with_reducible assumption) (by first | omega | (simp; done) | (simp; omega)))))); skip; clear hb1
  go_wp2_with fail
  refine (toIntS_any (xs := ts) (hT.later (by (repeat (first | with_reducible exact Below.refl _ _ | with_reducible assumption | (with_reducible refine below_drewN ?_ _) | (with_reducible refine Below.drew ?_) | (with_reducible refine Below.setCell ?_ (by first | omega | (simp; done) | (simp; omega)) _) | (with_reducible refine Below.alloc ?_ (by first | omega | (simp; done) | (simp; omega)) _) | refine Below.trans ?_ (Below.mono (by with_reducible assumption) (by first | omega | (simp; done) | (simp; omega))))))) hn2).mono ?_
  rintro e w6 ⟨rfl, ⟨hV2, _⟩, hb1⟩
  have hz1 := hb1.size; (try simp at hz1); have hB1 : Below w.heap.size w w6 := (by refine Below.trans ?_ (Below.mono hb1 (by first | omega | (simp; done) | (simp; omega))); (repeat (first | with_reducible exact Below.refl _ _ | with_reducible assumption | (with_reducible refine below_drewN ?_ _) | (with_reducible refine Below.drew ?_) | (with_reducible refine Below.setCell ?_ (by first | omega | (simp; done) | (simp; omega)) _) | (with_reducible refine Below.alloc ?_ (by first | omega | (simp; done) | (simp; omega)) _) | refine Below.trans ?_ (Below.mono (by with_reducible assumption) (by first | omega | (simp; done) | (simp; omega)))))); (replace hL2 : Lins _ (some ⟨w4.heap.size, 0, none⟩) n ls := Lins.later (by (repeat (first | with_reducible exact hL2 | (with_reducible refine Lins.alloc ?_ _) | (with_reducible refine Lins.drewN ?_ _) | (with_reducible refine Lins.drew ?_)))) hb1); clear hb1
  go_wp2_with fail
  refine (iFarOk_any (ls := ls) (ts := ts) (by (repeat (first | with_reducible exact hL2 | (with_reducible refine Lins.alloc ?_ _) | (with_reducible refine Lins.drewN ?_ _) | (with_reducible refine Lins.drew ?_)))) (by (repeat (first | with_reducible exact hV2 | (with_reducible refine Ints.far ?_ (by first | omega | (simp; done) | (simp; omega)) _) | (with_reducible refine Ints.alloc ?_ _) | (with_reducible refine Ints.drewN ?_ _) | (with_reducible refine Ints.drew ?_))))).mono ?_
  rintro e w7 ⟨rfl, hb1⟩
  have hz1 := hb1.size; (try simp at hz1); have hB1 : Below w.heap.size w w7 := (by refine Below.trans ?_ (Below.mono hb1 (by first | omega | (simp; done) | (simp; omega))); (repeat (first | with_reducible exact Below.refl _ _ | with_reducible assumption | (with_reducible refine below_drewN ?_ _) | (with_reducible refine Below.drew ?_) | (with_reducible refine Below.setCell ?_ (by first | omega | (simp; done) | (simp; omega)) _) | (with_reducible refine Below.alloc ?_ (by first | omega | (simp; done) | (simp; omega)) _) | refine Below.trans ?_ (Below.mono (by with_reducible assumption) (by first | omega | (simp; done) | (simp; omega)))))); (replace hL2 : Lins _ (some ⟨w4.heap.size, 0, none⟩) n ls := Lins.later (by (repeat (first | with_reducible exact hL2 | (with_reducible refine Lins.alloc ?_ _) | (with_reducible refine Lins.drewN ?_ _) | (with_reducible refine Lins.drew ?_)))) hb1; replace hV2 : Ints _ (some ⟨w5.heap.size, 0, none⟩) n' ts := Ints.later (by (repeat (first | with_reducible exact hV2 | (with_reducible refine Ints.far ?_ (by first | omega | (simp; done) | (simp; omega)) _) | (with_reducible refine Ints.alloc ?_ _) | (with_reducible refine Ints.drewN ?_ _) | (with_reducible refine Ints.drew ?_)))) hb1); clear hb1
  rw [hf]
  go_wp2_with fail
  refine (toLinS_any (ls := ls) (hA.later (by (repeat (first | with_reducible exact Below.refl _ _ | with_reducible assumption | (with_reducible refine below_drewN ?_ _) | (with_reducible refine Below.drew ?_) | (with_reducible refine Below.setCell ?_ (by first | omega | (simp; done) | (simp; omega)) _) | (with_reducible refine Below.alloc ?_ (by first | omega | (simp; done) | (simp; omega)) _) | refine Below.trans ?_ (Below.mono (by with_reducible assumption) (by first | omega | (simp; done) | (simp; omega))))))) hn hm).mono ?_
  rintro e w8 ⟨rfl, hL3, hb1⟩
  have hz1 := hb1.size; (try simp at hz1); have hB1 : Below w.heap.size w w8 := (by refine Below.trans ?_ (Below.mono hb1 (by first | omega | (simp; done) | (simp; omega))); (repeat (first | with_reducible exact Below.refl _ _ | with_reducible assumption | (with_reducible refine below_drewN ?_ _) | (with_reducible refine Below.drew ?_) | (with_reducible refine Below.setCell ?_ (by first | omega | (simp; done) | (simp; omega)) _) | (with_reducible refine Below.alloc ?_ (by first | omega | (simp; done) | (simp; omega)) _) | refine Below.trans ?_ (Below.mono (by with_reducible assumption) (by first | omega | (simp; done) | (simp; omega)))))); (replace hL2 : Lins _ (some ⟨w4.heap.size, 0, none⟩) n ls := Lins.later (by (repeat (first | with_reducible exact hL2 | (with_reducible refine Lins.alloc ?_ _) | (with_reducible refine Lins.drewN ?_ _) | (with_reducible refine Lins.drew ?_)))) hb1; replace hV2 : Ints _ (some ⟨w5.heap.size, 0, none⟩) n' ts := Ints.later (by (repeat (first | with_reducible exact hV2 | (with_reducible refine Ints.far ?_ (by first | omega | (simp; done) | (simp; omega)) _) | (with_reducible refine Ints.alloc ?_ _) | (with_reducible refine Ints.drewN ?_ _) | (with_reducible refine Ints.drew ?_)))) hb1); clear hb1
  go_wp2_with fail
  refine (eqLinS_same (ls := ls) (by (repeat (first | with_reducible exact hL2 | (with_reducible refine Lins.alloc ?_ _) | (with_reducible refine Lins.drewN ?_ _) | (with_reducible refine Lins.drew ?_)))) (by (repeat (first | with_reducible exact hL3 | (with_reducible refine Lins.alloc ?_ _) | (with_reducible refine Lins.drewN ?_ _) | (with_reducible refine Lins.drew ?_))))).mono ?_
  rintro e w9 ⟨rfl, hb1⟩
  have hz1 := hb1.size; (try simp at hz1); have hB1 : Below w.heap.size w w9 := (by refine Below.trans ?_ (Below.mono hb1 (by first | omega | (simp; done) | (simp; omega))); (repeat (first | with_reducible exact Below.refl _ _ | with_reducible assumption | (with_reducible refine below_drewN ?_ _) | (with_reducible refine Below.drew ?_) | (with_reducible refine Below.setCell ?_ (by first | omega | (simp; done) | (simp; omega)) _) | (with_reducible refine Below.alloc ?_ (by first | omega | (simp; done) | (simp; omega)) _) | refine Below.trans ?_ (Below.mono (by with_reducible assumption) (by first | omega | (simp; done) | (simp; omega)))))); (replace hL2 : Lins _ (some ⟨w4.heap.size, 0, none⟩) n ls := Lins.later (by (repeat (first | with_reducible exact hL2 | (with_reducible refine Lins.alloc ?_ _) | (with_reducible refine Lins.drewN ?_ _) | (with_reducible refine Lins.drew ?_)))) hb1; replace hV2 : Ints _ (some ⟨w5.heap.size, 0, none⟩) n' ts := Ints.later (by (repeat (first | with_reducible exact hV2 | (with_reducible refine Ints.far ?_ (by first | omega | (simp; done) | (simp; omega)) _) | (with_reducible refine Ints.alloc ?_ _) | (with_reducible refine Ints.drewN ?_ _) | (with_reducible refine Ints.drew ?_)))) hb1; replace hL3 : Lins _ (some ⟨w7.heap.size, 0, none⟩) n ls := Lins.later (by (repeat (first | with_reducible exact hL3 | (with_reducible refine Lins.alloc ?_ _) | (with_reducible refine Lins.drewN ?_ _) | (with_reducible refine Lins.drew ?_)))) hb1); clear hb1
  go_wp2_with fail
  refine (toIntS_any (xs := ts) (hT.later (by (repeat (first | with_reducible exact Below.refl _ _ | with_reducible assumption | (with_reducible refine below_drewN ?_ _) | (with_reducible refine Below.drew ?_) | (with_reducible refine Below.setCell ?_ (by first | omega | (simp; done) | (simp; omega)) _) | (with_reducible refine Below.alloc ?_ (by first | omega | (simp; done) | (simp; omega)) _) | refine Below.trans ?_ (Below.mono (by with_reducible assumption) (by first | omega | (simp; done) | (simp; omega))))))) hn2).mono ?_
  rintro e w10 ⟨rfl, ⟨hV3, _⟩, hb1⟩
  have hz1 := hb1.size; (try simp at hz1); have hB1 : Below w.heap.size w w10 := (by refine Below.trans ?_ (Below.mono hb1 (by first | omega | (simp; done) | (simp; omega))); (repeat (first | with_reducible exact Below.refl _ _ | with_reducible assumption | (with_reducible refine below_drewN ?_ _) | (with_reducible refine Below.drew ?_) | (with_reducible refine Below.setCell ?_ (by first | omega | (simp; done) | (simp; omega)) _) | (with_reducible refine Below.alloc ?_ (by first | omega | (simp; done) | (simp; omega)) _) | refine Below.trans ?_ (Below.mono (by with_reducible assumption) (by first | omega | (simp; done) | (simp; omega)))))); (replace hL2 : Lins _ (some ⟨w4.heap.size, 0, none⟩) n ls := Lins.later (by (repeat (first | with_reducible exact hL2 | (with_reducible refine Lins.alloc ?_ _) | (with_reducible refine Lins.drewN ?_ _) | (with_reducible refine Lins.drew ?_)))) hb1; replace hV2 : Ints _ (some ⟨w5.heap.size, 0, none⟩) n' ts := Ints.later (by (repeat (first | with_reducible exact hV2 | (with_reducible refine Ints.far ?_ (by first | omega | (simp; done) | (simp; omega)) _) | (with_reducible refine Ints.alloc ?_ _) | (with_reducible refine Ints.drewN ?_ _) | (with_reducible refine Ints.drew ?_)))) hb1; replace hL3 : Lins _ (some ⟨w7.heap.size, 0, none⟩) n ls := Lins.later (by (repeat (first | with_reducible exact hL3 | (with_reducible refine Lins.alloc ?_ _) | (with_reducible refine Lins.drewN ?_ _) | (with_reducible refine Lins.drew ?_)))) hb1); clear hb1
  go_wp2_with fail
  refine (eqIntS_same (xs := ts) (by (repeat (first | with_reducible exact hV2 | (with_reducible refine Ints.far ?_ (by first | omega | (simp; done) | (simp; omega)) _) | (with_reducible refine Ints.alloc ?_ _) | (with_reducible refine Ints.drewN ?_ _) | (with_reducible refine Ints.drew ?_)))) (by (repeat (first | with_reducible exact hV3 | (with_reducible refine Ints.far ?_ (by first | omega | (simp; done) | (simp; omega)) _) | (with_reducible refine Ints.alloc ?_ _) | (with_reducible refine Ints.drewN ?_ _) | (with_reducible refine Ints.drew ?_))))).mono ?_
  rintro e w11 ⟨rfl, hb1⟩
  have hz1 := hb1.size; (try simp at hz1); have hB1 : Below w.heap.size w w11 := (by refine Below.trans ?_ (Below.mono hb1 (by first | omega | (simp; done) | (simp; omega))); (repeat (first | with_reducible exact Below.refl _ _ | with_reducible assumption | (with_reducible refine below_drewN ?_ _) | (with_reducible refine Below.drew ?_) | (with_reducible refine Below.setCell ?_ (by first | omega | (simp; done) | (simp; omega)) _) | (with_reducible refine Below.alloc ?_ (by first | omega | (simp; done) | (simp; omega)) _) | refine Below.trans ?_ (Below.mono (by with_reducible assumption) (by first | omega | (simp; done) | (simp; omega)))))); (replace hL2 : Lins _ (some ⟨w4.heap.size, 0, none⟩) n ls := Lins.later (by (repeat (first | with_reducible exact hL2 | (with_reducible refine Lins.alloc ?_ _) | (with_reducible refine Lins.drewN ?_ _) | (with_reducible refine Lins.drew ?_)))) hb1; replace hV2 : Ints _ (some ⟨w5.heap.size, 0, none⟩) n' ts := Ints.later (by (repeat (first | with_reducible exact hV2 | (with_reducible refine Ints.far ?_ (by first | omega | (simp; done) | (simp; omega)) _) | (with_reducible refine Ints.alloc ?_ _) | (with_reducible refine Ints.drewN ?_ _) | (with_reducible refine Ints.drew ?_)))) hb1; replace hL3 : Lins _ (some ⟨w7.heap.size, 0, none⟩) n ls := Lins.later (by (repeat (first | with_reducible exact hL3 | (with_reducible refine Lins.alloc ?_ _) | (with_reducible refine Lins.drewN ?_ _) | (with_reducible refine Lins.drew ?_)))) hb1; replace hV3 : Ints _ (some ⟨w9.heap.size, 0, none⟩) n' ts := Ints.later (by (repeat (first | with_reducible exact hV3 | (with_reducible refine Ints.far ?_ (by first | omega | (simp; done) | (simp; omega)) _) | (with_reducible refine Ints.alloc ?_ _) | (with_reducible refine Ints.drewN ?_ _) | (with_reducible refine Ints.drew ?_)))) hb1); clear hb1
  go_wp2
  go_ret
  exact ⟨rfl, by (repeat (first | with_reducible exact Below.refl _ _ | with_reducible assumption | (with_reducible refine below_drewN ?_ _) | (with_reducible refine Below.drew ?_) | (with_reducible refine Below.setCell ?_ (by first | omega | (simp; done) | (simp; omega)) _) | (with_reducible refine Below.alloc ?_ (by first | omega | (simp; done) | (simp; omega)) _) | refine Below.trans ?_ (Below.mono (by with_reducible assumption) (by first | omega | (simp; done) | (simp; omega)))))⟩

theorem fnExactFarOk_open {H : Type} {enc : TypeId × Value → H} {W : World} {base : Nat} {args : Array Value} {ds : List (DataW H)} {p : List MemPlace}
    (hval : ∀ (j : Nat) t v, #[22, 23][j]? = some t → args[j]? = some v → Value.okWide Try.prog W .any base t v)
    (hA : DataW.TrodAll enc Try.prog W 0 (fun _ => true) true #[22, 23].toList args.toList ds p) :
    Calls Try.prog 3 args W fun e w' => e = .returned (.bool true) ∧ Below W.heap.size W w' := by
  obtain ⟨v0, v1, d0, d1, p0, p1, rfl, rfl, rfl, h0, h1⟩ := trodAll_two hA
  obtain ⟨A, n, c, ls, rfl, hL⟩ := open_lins22 (hval 0 _ v0 rfl rfl) h0
  obtain ⟨A', n', c', ts, rfl, hT⟩ := open_intlist (hval 1 _ v1 rfl rfl) h1
  exact fnExactFarOk_walk hL hT
set_option maxRecDepth 100000 in
theorem fnExactFarOk_lifted (os : Os) (started : os.Started) (H : Type) (enc : TypeId × Value → H) :
    ReturnsInHanded {} Try.checked os 3 .any (Rows.fnExactFarOkSpec.pre6 enc Try.prog Try.f3 Rows.fnExactFarOkRow.domain false) (Rows.fnExactFarOkSpec.post enc Try.prog Try.f3 false true false false) := by
  refine returnsInHanded_of_change (C := Try.checked) own started (by kernel_rfl) Try.func3
    (ChangeSpec.witness6 (enc := enc) (C := Try.checked) false ⟨#[], #[.slice none 0 0, .slice none 0 0], []⟩ 8 (by kernel_rfl) (by kernel_rfl) (by kernel_rfl) (by kernel_rfl)) ?_
  intro W base args ds gs before hval0 hW hcnd _
  have hval : ∀ (j : Nat) t v, Try.f3.params[j]? = some t → args[j]? = some v → Value.okWide Try.prog W .any base t v := hval0
  refine law_post hW rfl rfl ?_ ?_ ?_
  · have hr : (Try.f3.params.toList.all fun t => Try.prog.readableRec t && decide (t < Try.prog.types.size)) = true := by kernel_rfl
    intro t ht
    have := List.all_eq_true.1 hr t ht
    simpa using this
  · intro ds hl
    match ds, hl with
    | [d, e], _ => rfl
  · obtain ⟨p, q, hA0, _⟩ := hW
    have hA : DataW.TrodAll enc Try.prog W 0 (fun _ => true) true Try.f3.params.toList args.toList ds p := hA0
    clear hA0 hval0
    rw [Try.params3] at hA hval
    exact fnExactFarOk_open hval hA

theorem fnExactFarOk_facts : joinedFacts Try.prog 3 Try.f3 Rows.fnExactFarOkSpec Rows.fnExactFarOkRow = true :=
  joined_of _ _ _ _ _ (by kernel_rfl) laidOut mapsRowed_ok (by kernel_rfl) (by kernel_rfl) (by kernel_rfl) stops_eq (by kernel_rfl) stopKnobs_eq (by kernel_rfl) (by kernel_rfl) (by kernel_rfl) (by kernel_rfl) (by kernel_rfl) (by kernel_rfl) (by kernel_rfl) (by kernel_rfl) (by kernel_rfl) (by kernel_rfl) (by kernel_rfl) (by kernel_rfl) (by kernel_rfl) (plainKeys_eq _ rfl) (by kernel_rfl) heard_ok mayEnter_ok (lifted_eq _ rfl) (make_eq _ rfl) (by kernel_rfl) (by kernel_rfl) (by kernel_rfl) (by kernel_rfl)

theorem fnExactFarOk_holds : Rows.FnExactFarOkSaid :=
  OpenClaim.holds_of_wide 3 Try.f3 rfl rfl rfl rfl rfl rfl rfl ⟨rfl, rfl, rfl, rfl, rfl⟩ rfl rfl rfl rfl rfl (by kernel_rfl) Try.func3 fnExactFarOk_facts
    (of_decide_eq_true (by kernel_rfl)) (by unfold Func.isWrapper; first | (rw [if_pos (by decide +kernel)]; kernel_rfl) | (rw [if_neg (by decide +kernel)]; exact ⟨rfl, rfl⟩))
    (fun os started H enc _ => fnExactFarOk_lifted os started H enc)
#print axioms fnExactFarOk_holds
end Go.Proofs.Ythamgdinhlnldaa
