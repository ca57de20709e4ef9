/- Fractions are written. -/
import Derived.Test.YtkbohgabifpceaaDoorTx
import Derived.Test.YtkbohgabifpceaaDoorSf
namespace Go.Proofs.YtkbohgabifpceaaDoor
set_option maxRecDepth 100000
open Go.RowKit Go.ChangeShapes Go.WideShapes Go.ChangeAt
set_option linter.unusedSimpArgs false
set_option linter.unusedVariables false

/-- a fraction's text -/
def ratTextL (n d : Int) : List UInt8 := if d = 1 then Lib.itoa n else Lib.itoa n ++ 47 :: Lib.itoa d
/-- The library's table of powers of ten is as the text lays it. -/
def Tab (w : World) : Prop := Lib.TabIs Tryd.prog w "internal/strconv.uint64pow10" .u64 Lib.pow10Tab
theorem Tab.later {w w' : World} (h : Tab w) (hb : Below w.heap.size w w') : Tab w' := Lib.tabBelow_of_tabIs h w' hb
theorem Tab.alloc {w : World} (h : Tab w) (o : Obj) : Tab (w.alloc o) := h.later ((Below.refl _ _).alloc (Nat.le_refl _) o)
theorem Tab.drew {w : World} (h : Tab w) : Tab w.drew := h.later (Below.drew (Below.refl _ _))
theorem itoaI (n : Int) (h0 : -9223372036854775808 ≤ n) (h1 : n ≤ 9223372036854775807) {w : World} (h : Tab w) :
    Calls Tryd.prog 83 #[.int .i64 n] w fun e w' => e = .returned (.string (strB (Lib.itoa n))) ∧ Below w.heap.size w w' := by
  refine (Tryd.strconv_Itoa n h0 h1 w h).mono ?_
  rintro e w' ⟨rfl, k, os, rfl⟩
  exact ⟨rfl, Lib.below_grow _ _ (Nat.le_refl _) _ _⟩

set_option maxRecDepth 100000 in
theorem iratText_any {n d : Int} (hk : Hid (ratOk n d = true)) {w : World} (hT : Tab w) :
    Calls Tryd.prog 48 #[.agg #[.int .i64 n, .int .i64 d]] w fun e w' => e = .returned (.string (strB (ratTextL n d))) ∧ Below w.heap.size w w' := by
  obtain ⟨⟨n0, n1⟩, ⟨d0, d1⟩, _⟩ := ratOk_iff.1 hk.out
  have l1 := Lib.itoa_length_le n (by omega) (by omega)
  have l2 := Lib.itoa_length_le d (by omega) (by omega)
  have hs1 : ¬ 9223372036854775807 < (Lib.itoa n).length + 1 := by omega
  have hs2 : ¬ 9223372036854775807 < (Lib.itoa n).length + 1 + (Lib.itoa d).length := by omega
  have hlo : -9223372036854775807 ≤ n ∧ n ≤ 9223372036854775807 := by omega
  have hlo2 : -9223372036854775807 ≤ d ∧ d ≤ 9223372036854775807 := by omega
  clear n0 n1 d0 d1 l1 l2
  by_cases h1 : d = 1
  · subst h1
    go_enter Tryd.func48, Tryd.ntmps48
    go_wp2_with fail
    refine (itoaI n (by omega) (by omega) (by (repeat (first | with_reducible exact hT | (with_reducible refine Tab.alloc ?_ _) | (with_reducible refine Tab.drew ?_))))).mono ?_
    rintro e w1 ⟨rfl, hb1⟩
    have hz1 := hb1.size; (try simp at hz1); have hB1 : Below w.heap.size w w1 := (by refine Below.trans ?_ (Below.mono hb1 (by first | omega | (simp; done) | (simp; omega))); (repeat (first | with_reducible exact Below.refl _ _ | with_reducible assumption | (with_reducible refine below_drewN ?_ _) | (with_reducible refine Below.drew ?_) | (with_reducible refine Below.setCell ?_ (by first | omega | (simp; done) | (simp; omega)) _) | (with_reducible refine Below.alloc ?_ (by first | omega | (simp; done) | (simp; omega)) _) | refine Below.trans ?_ (Below.mono (by with_reducible assumption) (by first | omega | (simp; done) | (simp; omega))))))
    clear hb1
    go_wp2
    go_ret
    refine ⟨?_, by (repeat (first | with_reducible exact Below.refl _ _ | with_reducible assumption | (with_reducible refine below_drewN ?_ _) | (with_reducible refine Below.drew ?_) | (with_reducible refine Below.setCell ?_ (by first | omega | (simp; done) | (simp; omega)) _) | (with_reducible refine Below.alloc ?_ (by first | omega | (simp; done) | (simp; omega)) _) | refine Below.trans ?_ (Below.mono (by with_reducible assumption) (by first | omega | (simp; done) | (simp; omega)))))⟩
    unfold ratTextL
    rw [if_pos rfl]
    rfl
  · have h1' : (d == 1) = false := by simpa using h1
    go_enter Tryd.func48, Tryd.ntmps48
    go_wp2_with fail
    go_region_held3 (fun w' => w'.cell? ⟨w.heap.size, 0, none⟩ = some (.int .i64 n) ∧ w'.cell? ⟨w.heap.size, 1, none⟩ = some (.int .i64 d)) (simp [go_sem, World.cell?_alloc_past, *]) ((first | (go_at_call 83; refine (itoaI _ (by omega) (by omega) (by (repeat (first | with_reducible exact hT | (with_reducible refine Tab.alloc ?_ _) | (with_reducible refine Tab.drew ?_))))).mono ?_; rintro e w5 ⟨rfl, hb1⟩; have hz1 := hb1.size; (try simp at hz1); have hB1 : Below w.heap.size w w5 := (by refine Below.trans ?_ (Below.mono hb1 (by first | omega | (simp; done) | (simp; omega))); (repeat (first | with_reducible exact Below.refl _ _ | with_reducible assumption | (with_reducible refine below_drewN ?_ _) | (with_reducible refine Below.drew ?_) | (with_reducible refine Below.setCell ?_ (by first | omega | (simp; done) | (simp; omega)) _) | (with_reducible refine Below.alloc ?_ (by first | omega | (simp; done) | (simp; omega)) _) | refine Below.trans ?_ (Below.mono (by with_reducible assumption) (by first | omega | (simp; done) | (simp; omega)))))); obtain ⟨kc_, fc_, lc_⟩ := keep_later (a := ⟨w.heap.size, 0, none⟩) (v := .int .i64 n) hb1 (by go_simp) (by go_simp); obtain ⟨kc_, fc_, lc_⟩ := keep_later (a := ⟨w.heap.size, 1, none⟩) (v := .int .i64 d) hb1 (by go_simp) (by go_simp); (replace hT : Tab w5 := Tab.later (by (repeat (first | with_reducible exact hT | (with_reducible refine Tab.alloc ?_ _) | (with_reducible refine Tab.drew ?_)))) hb1); clear hb1)))
    all_goals
      go_wp2_with fail
      go_ret
      refine ⟨?_, by (repeat (first | with_reducible exact Below.refl _ _ | with_reducible assumption | (with_reducible refine below_drewN ?_ _) | (with_reducible refine Below.drew ?_) | (with_reducible refine Below.setCell ?_ (by first | omega | (simp; done) | (simp; omega)) _) | (with_reducible refine Below.alloc ?_ (by first | omega | (simp; done) | (simp; omega)) _) | refine Below.trans ?_ (Below.mono (by with_reducible assumption) (by first | omega | (simp; done) | (simp; omega)))))⟩
      show Ending.returned (.string ((strB _ ++ strB [47]) ++ strB _)) = _
      rw [strB_append, strB_append, List.append_assoc]
      unfold ratTextL
      rw [if_neg h1]
      rfl
theorem iRatText_any {n d : Int} (hk : Hid (ratOk n d = true)) {w : World} (hT : Tab w) :
    Calls Tryd.prog 12 #[.agg #[.int .i64 n, .int .i64 d]] w fun e w' => e = .returned (.string (strB (ratTextL n d))) ∧ Below w.heap.size w w' := by
  go_enter Tryd.func12, Tryd.ntmps12
  go_wp2_with fail
  refine (iRatOk_any n d _).mono ?_
  rw [hk.out]
  rintro e w1 ⟨rfl, hb1⟩
  have hT1 : Tab w1 := Tab.later (by (repeat (first | with_reducible exact hT | (with_reducible refine Tab.alloc ?_ _) | (with_reducible refine Tab.drew ?_)))) hb1
  have hz1 := hb1.size; (try simp at hz1); have hB1 : Below w.heap.size w w1 := (by refine Below.trans ?_ (Below.mono hb1 (by first | omega | (simp; done) | (simp; omega))); (repeat (first | with_reducible exact Below.refl _ _ | with_reducible assumption | (with_reducible refine below_drewN ?_ _) | (with_reducible refine Below.drew ?_) | (with_reducible refine Below.setCell ?_ (by first | omega | (simp; done) | (simp; omega)) _) | (with_reducible refine Below.alloc ?_ (by first | omega | (simp; done) | (simp; omega)) _) | refine Below.trans ?_ (Below.mono (by with_reducible assumption) (by first | omega | (simp; done) | (simp; omega)))))); obtain ⟨kc_, fc_, lc_⟩ := keep_later (a := ⟨w.heap.size, 0, none⟩) (v := .int .i64 n) hb1 (by go_simp) (by go_simp); obtain ⟨kc_, fc_, lc_⟩ := keep_later (a := ⟨w.heap.size, 1, none⟩) (v := .int .i64 d) hb1 (by go_simp) (by go_simp); clear hb1
  go_wp2_with fail
  refine (iratText_any hk hT1).mono ?_
  rintro e w2 ⟨rfl, hb1⟩
  have hz1 := hb1.size; (try simp at hz1); have hB1 : Below w.heap.size w w2 := (by refine Below.trans ?_ (Below.mono hb1 (by first | omega | (simp; done) | (simp; omega))); (repeat (first | with_reducible exact Below.refl _ _ | with_reducible assumption | (with_reducible refine below_drewN ?_ _) | (with_reducible refine Below.drew ?_) | (with_reducible refine Below.setCell ?_ (by first | omega | (simp; done) | (simp; omega)) _) | (with_reducible refine Below.alloc ?_ (by first | omega | (simp; done) | (simp; omega)) _) | refine Below.trans ?_ (Below.mono (by with_reducible assumption) (by first | omega | (simp; done) | (simp; omega)))))); clear hb1
  go_wp2
  go_ret
  exact ⟨rfl, by (repeat (first | with_reducible exact Below.refl _ _ | with_reducible assumption | (with_reducible refine below_drewN ?_ _) | (with_reducible refine Below.drew ?_) | (with_reducible refine Below.setCell ?_ (by first | omega | (simp; done) | (simp; omega)) _) | (with_reducible refine Below.alloc ?_ (by first | omega | (simp; done) | (simp; omega)) _) | refine Below.trans ?_ (Below.mono (by with_reducible assumption) (by first | omega | (simp; done) | (simp; omega)))))⟩
theorem iRatText_no {n d : Int} (hk : Hid (ratOk n d = false)) (w : World) :
    Calls Tryd.prog 12 #[.agg #[.int .i64 n, .int .i64 d]] w fun e w' => e = .returned (.string (strB [])) ∧ Below w.heap.size w w' := by
  go_enter Tryd.func12, Tryd.ntmps12
  go_wp2_with fail
  refine (iRatOk_any n d _).mono ?_
  rw [hk.out]
  rintro e w1 ⟨rfl, hb1⟩
  have hz1 := hb1.size; (try simp at hz1); have hB1 : Below w.heap.size w w1 := (by refine Below.trans ?_ (Below.mono hb1 (by first | omega | (simp; done) | (simp; omega))); (repeat (first | with_reducible exact Below.refl _ _ | with_reducible assumption | (with_reducible refine below_drewN ?_ _) | (with_reducible refine Below.drew ?_) | (with_reducible refine Below.setCell ?_ (by first | omega | (simp; done) | (simp; omega)) _) | (with_reducible refine Below.alloc ?_ (by first | omega | (simp; done) | (simp; omega)) _) | refine Below.trans ?_ (Below.mono (by with_reducible assumption) (by first | omega | (simp; done) | (simp; omega))))))
  clear hb1
  go_wp2
  go_ret
  exact ⟨rfl, by (repeat (first | with_reducible exact Below.refl _ _ | with_reducible assumption | (with_reducible refine below_drewN ?_ _) | (with_reducible refine Below.drew ?_) | (with_reducible refine Below.setCell ?_ (by first | omega | (simp; done) | (simp; omega)) _) | (with_reducible refine Below.alloc ?_ (by first | omega | (simp; done) | (simp; omega)) _) | refine Below.trans ?_ (Below.mono (by with_reducible assumption) (by first | omega | (simp; done) | (simp; omega)))))⟩

set_option maxRecDepth 100000 in
theorem sRatText_any {n d : Int} (hk : Hid (ratOk n d = true)) (w : World) :
    Calls Tryd.prog 14 #[.agg #[.int .i64 n, .int .i64 d]] w fun e w' => e = .returned (.string (strB (ratTextL n d))) ∧ Below w.heap.size w w' := by
  obtain ⟨⟨n0, n1⟩, ⟨d0, d1⟩, _⟩ := ratOk_iff.1 hk.out
  have l1 := Lib.itoa_length_le n (by omega) (by omega)
  have l2 := Lib.itoa_length_le d (by omega) (by omega)
  have hs1 : ¬ 9223372036854775807 < (Lib.itoa n).length + 1 := by omega
  have hs2 : ¬ 9223372036854775807 < (Lib.itoa n).length + 1 + (Lib.itoa d).length := by omega
  have hlo : -9223372036854775807 ≤ n ∧ n ≤ 9223372036854775807 := by omega
  have hlo2 : -9223372036854775807 ≤ d ∧ d ≤ 9223372036854775807 := by omega
  clear n0 n1 d0 d1 l1 l2
  by_cases h1 : d = 1
  · subst h1
    go_enter Tryd.func14, Tryd.ntmps14
    go_wp2_with fail
    refine (sRatOk_any n 1 _).mono ?_
    rw [hk.out]
    rintro e w1 ⟨rfl, hb1⟩
    have hz1 := hb1.size; (try simp at hz1); have hB1 : Below w.heap.size w w1 := (by refine Below.trans ?_ (Below.mono hb1 (by first | omega | (simp; done) | (simp; omega))); (repeat (first | with_reducible exact Below.refl _ _ | with_reducible assumption | (with_reducible refine below_drewN ?_ _) | (with_reducible refine Below.drew ?_) | (with_reducible refine Below.setCell ?_ (by first | omega | (simp; done) | (simp; omega)) _) | (with_reducible refine Below.alloc ?_ (by first | omega | (simp; done) | (simp; omega)) _) | refine Below.trans ?_ (Below.mono (by with_reducible assumption) (by first | omega | (simp; done) | (simp; omega)))))); obtain ⟨kc_, fc_, lc_⟩ := keep_later (a := ⟨w.heap.size, 0, none⟩) (v := .int .i64 n) hb1 (by go_simp) (by go_simp); obtain ⟨kc_, fc_, lc_⟩ := keep_later (a := ⟨w.heap.size, 1, none⟩) (v := .int .i64 1) hb1 (by go_simp) (by go_simp); clear hb1
    go_wp2_with fail
    refine (l16Dec_any n (by omega) (by omega) _).mono ?_
    rintro e w2 ⟨rfl, hb1⟩
    have hz1 := hb1.size; (try simp at hz1); have hB1 : Below w.heap.size w w2 := (by refine Below.trans ?_ (Below.mono hb1 (by first | omega | (simp; done) | (simp; omega))); (repeat (first | with_reducible exact Below.refl _ _ | with_reducible assumption | (with_reducible refine below_drewN ?_ _) | (with_reducible refine Below.drew ?_) | (with_reducible refine Below.setCell ?_ (by first | omega | (simp; done) | (simp; omega)) _) | (with_reducible refine Below.alloc ?_ (by first | omega | (simp; done) | (simp; omega)) _) | refine Below.trans ?_ (Below.mono (by with_reducible assumption) (by first | omega | (simp; done) | (simp; omega))))))
    clear hb1
    go_wp2
    go_ret
    refine ⟨?_, by (repeat (first | with_reducible exact Below.refl _ _ | with_reducible assumption | (with_reducible refine below_drewN ?_ _) | (with_reducible refine Below.drew ?_) | (with_reducible refine Below.setCell ?_ (by first | omega | (simp; done) | (simp; omega)) _) | (with_reducible refine Below.alloc ?_ (by first | omega | (simp; done) | (simp; omega)) _) | refine Below.trans ?_ (Below.mono (by with_reducible assumption) (by first | omega | (simp; done) | (simp; omega)))))⟩
    unfold ratTextL
    rw [if_pos rfl]
    rfl
  · have h1' : (d == 1) = false := by simpa using h1
    go_enter Tryd.func14, Tryd.ntmps14
    go_wp2_with fail
    refine (sRatOk_any n d _).mono ?_
    rw [hk.out]
    rintro e w1 ⟨rfl, hb1⟩
    have hz1 := hb1.size; (try simp at hz1); have hB1 : Below w.heap.size w w1 := (by refine Below.trans ?_ (Below.mono hb1 (by first | omega | (simp; done) | (simp; omega))); (repeat (first | with_reducible exact Below.refl _ _ | with_reducible assumption | (with_reducible refine below_drewN ?_ _) | (with_reducible refine Below.drew ?_) | (with_reducible refine Below.setCell ?_ (by first | omega | (simp; done) | (simp; omega)) _) | (with_reducible refine Below.alloc ?_ (by first | omega | (simp; done) | (simp; omega)) _) | refine Below.trans ?_ (Below.mono (by with_reducible assumption) (by first | omega | (simp; done) | (simp; omega)))))); obtain ⟨kc_, fc_, lc_⟩ := keep_later (a := ⟨w.heap.size, 0, none⟩) (v := .int .i64 n) hb1 (by go_simp) (by go_simp); obtain ⟨kc_, fc_, lc_⟩ := keep_later (a := ⟨w.heap.size, 1, none⟩) (v := .int .i64 d) hb1 (by go_simp) (by go_simp); clear hb1
    go_wp2_with fail
    go_region_held3 (fun w' => w'.cell? ⟨w.heap.size, 0, none⟩ = some (.int .i64 n) ∧ w'.cell? ⟨w.heap.size, 1, none⟩ = some (.int .i64 d)) (simp [go_sem, World.cell?_alloc_past, *]) ((first | (go_at_call 51; refine (l16Dec_any _ (by omega) (by omega) _).mono ?_; rintro e w5 ⟨rfl, hb1⟩; have hz1 := hb1.size; (try simp at hz1); have hB1 : Below w.heap.size w w5 := (by refine Below.trans ?_ (Below.mono hb1 (by first | omega | (simp; done) | (simp; omega))); (repeat (first | with_reducible exact Below.refl _ _ | with_reducible assumption | (with_reducible refine below_drewN ?_ _) | (with_reducible refine Below.drew ?_) | (with_reducible refine Below.setCell ?_ (by first | omega | (simp; done) | (simp; omega)) _) | (with_reducible refine Below.alloc ?_ (by first | omega | (simp; done) | (simp; omega)) _) | refine Below.trans ?_ (Below.mono (by with_reducible assumption) (by first | omega | (simp; done) | (simp; omega)))))); obtain ⟨kc_, fc_, lc_⟩ := keep_later (a := ⟨w.heap.size, 0, none⟩) (v := .int .i64 n) hb1 (by go_simp) (by go_simp); obtain ⟨kc_, fc_, lc_⟩ := keep_later (a := ⟨w.heap.size, 1, none⟩) (v := .int .i64 d) hb1 (by go_simp) (by go_simp); skip; clear hb1)))
    all_goals
      go_wp2_with fail
      go_ret
      refine ⟨?_, by (repeat (first | with_reducible exact Below.refl _ _ | with_reducible assumption | (with_reducible refine below_drewN ?_ _) | (with_reducible refine Below.drew ?_) | (with_reducible refine Below.setCell ?_ (by first | omega | (simp; done) | (simp; omega)) _) | (with_reducible refine Below.alloc ?_ (by first | omega | (simp; done) | (simp; omega)) _) | refine Below.trans ?_ (Below.mono (by with_reducible assumption) (by first | omega | (simp; done) | (simp; omega)))))⟩
      show Ending.returned (.string ((strB _ ++ strB [47]) ++ strB _)) = _
      rw [strB_append, strB_append, List.append_assoc]
      unfold ratTextL
      rw [if_neg h1]
      rfl
theorem sRatText_no {n d : Int} (hk : Hid (ratOk n d = false)) (w : World) :
    Calls Tryd.prog 14 #[.agg #[.int .i64 n, .int .i64 d]] w fun e w' => e = .returned (.string (strB [])) ∧ Below w.heap.size w w' := by
  go_enter Tryd.func14, Tryd.ntmps14
  go_wp2_with fail
  refine (sRatOk_any n d _).mono ?_
  rw [hk.out]
  rintro e w1 ⟨rfl, hb1⟩
  have hz1 := hb1.size; (try simp at hz1); have hB1 : Below w.heap.size w w1 := (by refine Below.trans ?_ (Below.mono hb1 (by first | omega | (simp; done) | (simp; omega))); (repeat (first | with_reducible exact Below.refl _ _ | with_reducible assumption | (with_reducible refine below_drewN ?_ _) | (with_reducible refine Below.drew ?_) | (with_reducible refine Below.setCell ?_ (by first | omega | (simp; done) | (simp; omega)) _) | (with_reducible refine Below.alloc ?_ (by first | omega | (simp; done) | (simp; omega)) _) | refine Below.trans ?_ (Below.mono (by with_reducible assumption) (by first | omega | (simp; done) | (simp; omega))))))
  clear hb1
  go_wp2
  go_ret
  exact ⟨rfl, by (repeat (first | with_reducible exact Below.refl _ _ | with_reducible assumption | (with_reducible refine below_drewN ?_ _) | (with_reducible refine Below.drew ?_) | (with_reducible refine Below.setCell ?_ (by first | omega | (simp; done) | (simp; omega)) _) | (with_reducible refine Below.alloc ?_ (by first | omega | (simp; done) | (simp; omega)) _) | refine Below.trans ?_ (Below.mono (by with_reducible assumption) (by first | omega | (simp; done) | (simp; omega)))))⟩
end Go.Proofs.YtkbohgabifpceaaDoor
